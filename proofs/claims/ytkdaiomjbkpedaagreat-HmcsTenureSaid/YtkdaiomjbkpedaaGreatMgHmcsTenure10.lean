/- Joined: Rg1, Rg2. -/
import Derived.StillTailTactics
import Derived.Deep.RegionHeld3
import Derived.Test.YtkdaiomjbkpedaaGreatMgHmcsTenure2
import Derived.Test.YtkdaiomjbkpedaaGreatMgHmcsTenure3
import Derived.Test.YtkdaiomjbkpedaaGreatMgHmcsTenure9
section
/- Layer 26: a rung as plain data; how it lies in memory. -/
namespace Go.Proofs.YtkdaiomjbkpedaaGreat
open Go.RowKit

/-- a lock's number, as the program reckons it -/
def nxA (t x : Int) : Int := wrap64 (wrap64 (t + wrap64 (2 * x)) - 1)
def stA (t x : Int) : Int := wrap64 (t + wrap64 (2 * x))
structure Rg where
  ar : Ar
  S : List Sp
/-- a step of a slot that comes in -/
def inR26 (s : Ar) (t x : Int) (p : Sp) : Ar × Sp :=
  if p.pc = 1 then (storeA s (nxA t x) 0, { p with pc := 2 })
  else if p.pc = 2 then (storeA s (stA t x) 0, { p with pc := 3 })
  else if p.pc = 3 then (swapA s t x, { p with a := ldW s.W t, pc := if ldW s.W t = 0 then 6 else 4 })
  else if p.pc = 4 then (storeA s (nxA t p.a) x, { p with pc := 5 })
  else if p.pc = 5 then (loadA s (stA t x), if 0 < ldW s.W (stA t x) then { p with a := ldW s.W (stA t x), b := 0, pc := 10 } else if ldW s.W (stA t x) < 0 then { p with a := ldW s.W (stA t x), pc := 6 } else { p with a := ldW s.W (stA t x), pc := 5 })
  else (storeA s (stA t x) 1, { p with a := 1, b := 1, pc := 10 })
/-- a step of a slot that goes out, or hands on -/
def outR26 (s : Ar) (t x : Int) (p : Sp) : Ar × Sp :=
  if p.pc = 12 then (casA s t x 0, { p with pc := if casB s t x then 0 else 13 })
  else if p.pc = 14 then (storeA s (stA t p.a) p.c, { p with pc := 0 })
  else if p.pc = 15 then (loadA s (nxA t x), { p with b := ldW s.W (nxA t x), pc := if ldW s.W (nxA t x) = 0 then 10 else 16 })
  else if p.pc = 16 then (storeA s (stA t p.b) p.c, { p with pc := 0 })
  else (loadA s (nxA t x), { p with a := ldW s.W (nxA t x), pc := if ldW s.W (nxA t x) ≠ 0 then 14 else if p.pc = 11 then 12 else 13 })
def stepP (s : Ar) (t x : Int) (p : Sp) : Ar × Sp := if p.pc < 10 then inR26 s t x p else outR26 s t x p
def stepRg (r : Rg) (t i : Int) : Rg × Bool :=
  if okI r.S i ∧ (getS r.S i).pc ≠ 0 ∧ (getS r.S i).pc ≠ 10 then
    (⟨(stepP r.ar t (i + 1) (getS r.S i)).1, r.S.set i.toNat (stepP r.ar t (i + 1) (getS r.S i)).2⟩, decide ((stepP r.ar t (i + 1) (getS r.S i)).2.pc = 0 ∨ (stepP r.ar t (i + 1) (getS r.S i)).2.pc = 10))
  else (r, false)
def beginRg (r : Rg) (i from_ to_ : Int) : Rg × Bool :=
  if okI r.S i ∧ (getS r.S i).pc = from_ then (⟨r.ar, r.S.set i.toNat { getS r.S i with pc := to_ }⟩, true) else (r, false)
def withRg (r : Rg) (i to_ v : Int) : Rg × Bool :=
  if okI r.S i ∧ (getS r.S i).pc = 10 then (⟨r.ar, r.S.set i.toNat { getS r.S i with pc := to_, c := v }⟩, true) else (r, false)

structure RgIs (w : World) (l a g q : Nat) (t : Int) (r : Rg) : Prop where
  ar : ArIs w a g r.ar
  lk : Blk w l 126 #[.pointer (some ⟨a, 0, none⟩), .int .i64 t, .slice (some ⟨q, 0, none⟩) r.S.length r.S.length]
  sp : SpIs w q r.S
  la : l ≠ a
  lg : l ≠ g
  lq : l ≠ q
  qa : q ≠ a
  qg : q ≠ g
  len : r.S.length ≤ 32
theorem RgIs.turns {w w' : World} {l a g q : Nat} {t : Int} {r : Rg} {T : List Nat} (h : RgIs w l a g q t r) (k : Turns T w w') (h1 : l ∉ T) (h2 : a ∉ T) (h3 : g ∉ T) (h4 : q ∉ T) : RgIs w' l a g q t r :=
  ⟨h.ar.turns k h2 h3, k.blk h.lk h1, h.sp.turns k h4, h.la, h.lg, h.lq, h.qa, h.qg, h.len⟩
theorem RgIs.below {w w' : World} {l a g q : Nat} {t : Int} {r : Rg} (h : RgIs w l a g q t r) (k : Below w.heap.size w w') : RgIs w' l a g q t r :=
  h.turns (T := []) (Turns.of_below k) (by simp) (by simp) (by simp) (by simp)
theorem slots_any {w : World} {l a g q : Nat} {t : Int} {r : Rg} (h : RgIs w l a g q t r) :
    Calls Tryz.prog 67 #[.pointer (some ⟨l, 0, none⟩)] w fun e w' => e = .returned (.int .i64 r.S.length) ∧ w = w' := by
  have c2 : w.cell? ⟨l, 2, none⟩ = some (.slice (some ⟨q, 0, none⟩) r.S.length r.S.length) := h.lk.cell 2
  clear h
  go_enter Tryz.func67, Tryz.ntmps67
  go_wp2
  go_ret
  exact ⟨rfl, rfl⟩
set_option maxHeartbeats 400000 in
theorem spot_any {w : World} {l a g q : Nat} {t : Int} {r : Rg} (h : RgIs w l a g q t r) (i : Int) :
    Calls Tryz.prog 63 #[.pointer (some ⟨l, 0, none⟩), .int .i64 i] w fun e w' => e = .returned (spotV (getS r.S i)) ∧ Below w.heap.size w w' := by
  have HN := h.len
  by_cases hi : okI r.S i
  · have hp := getS_in hi
    obtain ⟨p, hpp⟩ : ∃ p, p = getS r.S i := ⟨_, rfl⟩
    rw [← hpp] at hp ⊢
    have c2 : w.cell? ⟨l, 2, none⟩ = some (.slice (some ⟨q, 0, none⟩) r.S.length r.S.length) := h.lk.cell 2
    have a0 := h.sp.cell hp 0 _ rfl
    have a1 := h.sp.cell hp 1 _ rfl
    have a2 := h.sp.cell hp 2 _ rfl
    have a3 := h.sp.cell hp 3 _ rfl
    simp only [Nat.add_zero] at a0
    obtain ⟨h0, h1⟩ := hi
    obtain ⟨n, rfl⟩ := Int.eq_ofNat_of_zero_le h0
    simp only [Int.toNat_natCast] at a0 a1 a2 a3
    have hs1 := h.lk.lt
    have hs2 := h.sp.lt
    have t2 : ¬ (n : Int) < 0 := by omega
    have t3 : ¬ ((r.S.length : Nat) : Int) ≤ (n : Int) := by omega
    have t4 : n < r.S.length := by omega
    have H : Hid (RgIs (w.alloc (.cells #[.int .i64 0, .int .i64 0, .int .i64 0, .int .i64 0] 35)) l a g q t r) := Lib.hid (h.below ((Below.refl _ _).alloc (Nat.le_refl _) _))
    clear h hp hpp h0 h1
    go_enter Tryz.func63, Tryz.ntmps63
    go_wp2_with (go_at_call 67; refine (slots_any H.out).mono ?_; rintro e w' ⟨rfl, rfl⟩)
    exact bodyPost_ret (results_cell_row (by rfl) _ _ w.heap.size 35 _ (0, 0) _ (by rfl) (heap_alloc_new w _) Tryz.underlying35 rfl (by kernel_rfl)) rfl ⟨rfl, (Below.refl _ _).alloc (Nat.le_refl _) _⟩
  · have H : Hid (RgIs (w.alloc (.cells #[.int .i64 0, .int .i64 0, .int .i64 0, .int .i64 0] 35)) l a g q t r) := Lib.hid (h.below ((Below.refl _ _).alloc (Nat.le_refl _) _))
    rw [getS_out hi]
    unfold okI at hi
    clear h
    by_cases h0 : i < 0
    · go_enter Tryz.func63, Tryz.ntmps63
      go_wp2
      exact bodyPost_ret (results_cell_row (by rfl) _ _ w.heap.size 35 _ (0, 0) _ (by rfl) (heap_alloc_new w _) Tryz.underlying35 rfl (by kernel_rfl)) rfl ⟨rfl, (Below.refl _ _).alloc (Nat.le_refl _) _⟩
    · have t3 : ((r.S.length : Nat) : Int) ≤ i := by omega
      clear hi
      go_enter Tryz.func63, Tryz.ntmps63
      go_wp2_with (go_at_call 67; refine (slots_any H.out).mono ?_; rintro e w' ⟨rfl, rfl⟩)
      exact bodyPost_ret (results_cell_row (by rfl) _ _ w.heap.size 35 _ (0, 0) _ (by rfl) (heap_alloc_new w _) Tryz.underlying35 rfl (by kernel_rfl)) rfl ⟨rfl, (Below.refl _ _).alloc (Nat.le_refl _) _⟩

def BegOk (w : World) (l a g q : Nat) (t : Int) (x : Rg × Bool) (e : Ending) (w' : World) : Prop := e = .returned (.bool x.2) ∧ RgIs w' l a g q t x.1 ∧ Turns [q] w w'
theorem RgIs.spot {w w' : World} {l a g q : Nat} {t : Int} {r : Rg} (h : RgIs w l a g q t r) {S' : List Sp} (hs : SpIs w' q S') (hl : S'.length = r.S.length) (k : Turns [q] w w') : RgIs w' l a g q t ⟨r.ar, S'⟩ :=
  ⟨h.ar.turns k (by simpa using fun e => h.qa e.symm) (by simpa using fun e => h.qg e.symm), by
    have := k.blk h.lk (by simpa using h.lq)
    show Blk w' l _ #[.pointer (some ⟨a, 0, none⟩), .int .i64 t, .slice (some ⟨q, 0, none⟩) S'.length S'.length]
    rw [hl]; exact this, hs, h.la, h.lg, h.lq, h.qa, h.qg, by show S'.length ≤ 32; rw [hl]; exact h.len⟩
set_option maxHeartbeats 800000 in
theorem begin_any {w : World} {l a g q : Nat} {t : Int} {r : Rg} (h : RgIs w l a g q t r) (i from_ to_ : Int) :
    Calls Tryz.prog 133 #[.pointer (some ⟨l, 0, none⟩), .int .i64 i, .int .i64 from_, .int .i64 to_] w (BegOk w l a g q t (beginRg r i from_ to_)) := by
  have H := Lib.hid h
  have hlen := h.len
  by_cases hi : okI r.S i
  · have hp := getS_in hi
    obtain ⟨p, hpp⟩ : ∃ p, p = getS r.S i := ⟨_, rfl⟩
    rw [← hpp] at hp
    have c2 : w.cell? ⟨l, 2, none⟩ = some (.slice (some ⟨q, 0, none⟩) r.S.length r.S.length) := h.lk.cell 2
    have a0 := h.sp.cell hp 0 _ rfl
    have f0 := h.sp.free (i.toNat * 4)
    simp only [Nat.add_zero] at a0
    obtain ⟨h0, h1⟩ := id hi
    obtain ⟨n, rfl⟩ := Int.eq_ofNat_of_zero_le h0
    simp only [Int.toNat_natCast] at a0 f0 hp
    have t2 : ¬ (n : Int) < 0 := by omega
    have t3 : ¬ ((r.S.length : Nat) : Int) ≤ (n : Int) := by omega
    have t4 : n < r.S.length := by omega
    have HP := Lib.hid (And.intro hi (And.intro hpp hp))
    clear h hp hpp h0 h1 hi
    cases hc : (p.pc != from_)
    · have hb : Hid (beginRg r n from_ to_ = (⟨r.ar, r.S.set n { p with pc := to_ }⟩, true)) := Lib.hid (by
        unfold beginRg
        have e : p.pc = from_ := by simpa using hc
        rw [← HP.out.2.1, if_pos ⟨HP.out.1, e⟩]; simp)
      go_enter Tryz.func133, Tryz.ntmps133
      go_wp2_with (go_at_call 67; refine (slots_any H.out).mono ?_; rintro e w' ⟨rfl, rfl⟩)
      go_ret
      rw [hb.out]
      have ht : Turns [q] w (w.setCell ⟨q, n * 4, none⟩ (.int .i64 to_)) := (Turns.refl _ _).setCell (.inl (by simp)) _
      exact ⟨rfl, H.out.spot (H.out.sp.put HP.out.2.2 (j := 0) (by decide) rfl) (by simp) ht, ht⟩
    · have hb : Hid (beginRg r n from_ to_ = (r, false)) := Lib.hid (by
        unfold beginRg
        have e : ¬ p.pc = from_ := by simpa using hc
        rw [← HP.out.2.1, if_neg (fun h => e h.2)])
      go_enter Tryz.func133, Tryz.ntmps133
      go_wp2_with (go_at_call 67; refine (slots_any H.out).mono ?_; rintro e w' ⟨rfl, rfl⟩)
      go_ret
      rw [hb.out]
      exact ⟨rfl, H.out, Turns.refl _ _⟩
  · have hb : Hid (beginRg r i from_ to_ = (r, false)) := Lib.hid (by
      unfold beginRg
      rw [if_neg (fun h => hi h.1)])
    unfold okI at hi
    clear h
    by_cases h0 : i < 0
    · go_enter Tryz.func133, Tryz.ntmps133
      go_wp2
      go_ret
      rw [hb.out]
      exact ⟨rfl, H.out, Turns.refl _ _⟩
    · have t3 : ((r.S.length : Nat) : Int) ≤ i := by omega
      clear hi
      go_enter Tryz.func133, Tryz.ntmps133
      go_wp2_with (go_at_call 67; refine (slots_any H.out).mono ?_; rintro e w' ⟨rfl, rfl⟩)
      go_ret
      rw [hb.out]
      exact ⟨rfl, H.out, Turns.refl _ _⟩
theorem ask_any {w : World} {l a g q : Nat} {t : Int} {r : Rg} (h : RgIs w l a g q t r) (i : Int) :
    Calls Tryz.prog 109 #[.pointer (some ⟨l, 0, none⟩), .int .i64 i] w (BegOk w l a g q t (beginRg r i 0 1)) := by
  go_enter Tryz.func109, Tryz.ntmps109
  have H := Lib.hid h
  clear h
  go_wp2_with fail
  refine (begin_any H.out i 0 1).mono ?_
  rintro en w1 ⟨rfl, h1, t1⟩
  have H1 := Lib.hid (And.intro h1 t1)
  clear h1 t1
  obtain ⟨b, hb⟩ : ∃ b, b = (beginRg r i 0 1).2 := ⟨_, rfl⟩
  rw [← hb]
  have HB := Lib.hid hb
  clear hb
  go_wp2
  go_ret
  exact ⟨by rw [HB.out]; rfl, H1.out.1, H1.out.2⟩
theorem beginRg_in {r : Rg} {i f u : Int} (h : (beginRg r i f u).2 = true) : okI r.S i ∧ (getS r.S i).pc = f ∧ (beginRg r i f u).1 = ⟨r.ar, r.S.set i.toNat { getS r.S i with pc := u }⟩ := by
  unfold beginRg at *
  split at h
  · rename_i hc
    rw [if_pos hc]
    exact ⟨hc.1, hc.2, rfl⟩
  · cases h
theorem beginRg_out {r : Rg} {i f u : Int} (h : (beginRg r i f u).2 = false) : ¬ (okI r.S i ∧ (getS r.S i).pc = f) ∧ (beginRg r i f u).1 = r := by
  unfold beginRg at *
  split at h
  · cases h
  · rename_i hc
    rw [if_neg hc]
    exact ⟨hc, rfl⟩
set_option maxHeartbeats 800000 in
theorem with_any {w : World} {l a g q : Nat} {t : Int} {r : Rg} (h : RgIs w l a g q t r) (i to_ v : Int) :
    Calls Tryz.prog 136 #[.pointer (some ⟨l, 0, none⟩), .int .i64 i, .int .i64 to_, .int .i64 v] w (BegOk w l a g q t (withRg r i to_ v)) := by
  have H := Lib.hid h
  clear h
  go_enter Tryz.func136, Tryz.ntmps136
  go_wp2_with fail
  refine (begin_any H.out i 10 to_).mono ?_
  rintro en w1 ⟨rfl, h1, t1⟩
  cases hb : (beginRg r i 10 to_).2
  · obtain ⟨hc, he⟩ := beginRg_out hb
    rw [he] at h1
    have HW : Hid (withRg r i to_ v = (r, false)) := Lib.hid (by unfold withRg; rw [if_neg hc])
    have H1 := Lib.hid (And.intro h1 t1)
    clear h1 t1 hb hc he
    go_wp2
    go_ret
    rw [HW.out]
    exact ⟨rfl, H1.out.1, H1.out.2⟩
  · obtain ⟨hi, hc, he⟩ := beginRg_in hb
    rw [he] at h1
    have hp0 := getS_in hi
    have hlen := h1.len
    simp only [List.length_set] at hlen
    obtain ⟨h0, h9⟩ := id hi
    obtain ⟨n, rfl⟩ := Int.eq_ofNat_of_zero_le h0
    simp only [Int.toNat_natCast] at h1 hp0
    have hp : (r.S.set n { getS r.S n with pc := to_ })[n]? = some { getS r.S n with pc := to_ } := by
      have : n < r.S.length := by omega
      simp [this]
    have c2 : w1.cell? ⟨l, 2, none⟩ = some (.slice (some ⟨q, 0, none⟩) r.S.length r.S.length) := by
      have := h1.lk.cell 2
      simpa using this
    have a3 := h1.sp.cell hp 3 _ rfl
    have f3 := h1.sp.free (n * 4 + 3)
    have t4 : n < r.S.length := by omega
    have t5 : (n : Int) < r.S.length := by omega
    have HW : Hid (withRg r n to_ v = (⟨r.ar, r.S.set n { getS r.S n with pc := to_, c := v }⟩, true)) := Lib.hid (by unfold withRg; rw [if_pos ⟨hi, hc⟩]; simp)
    have H1 := Lib.hid (And.intro h1 (And.intro t1 hp))
    clear h1 t1 hb hc he hp hi hp0 h0 h9
    go_wp2
    go_ret
    rw [HW.out]
    have ht : Turns [q] w1 (w1.setCell ⟨q, n * 4 + 3, none⟩ (.int .i64 v)) := (Turns.refl _ _).setCell (.inl (by simp)) _
    refine ⟨rfl, ?_, H1.out.2.1.trans ht⟩
    have h2 := H1.out.1.spot (H1.out.1.sp.put H1.out.2.2 (j := 3) (u := .int .i64 v) (p' := { getS r.S n with pc := to_, c := v }) (by decide) rfl) (by simp) ht
    simpa using h2
theorem leave_any {w : World} {l a g q : Nat} {t : Int} {r : Rg} (h : RgIs w l a g q t r) (i v : Int) :
    Calls Tryz.prog 112 #[.pointer (some ⟨l, 0, none⟩), .int .i64 i, .int .i64 v] w (BegOk w l a g q t (withRg r i 11 v)) := by
  have H := Lib.hid h
  clear h
  go_enter Tryz.func112, Tryz.ntmps112
  go_wp2_with fail
  refine (with_any H.out i 11 v).mono ?_
  rintro en w1 ⟨rfl, h1, t1⟩
  have H1 := Lib.hid (And.intro h1 t1)
  clear h1 t1
  obtain ⟨b, hb⟩ : ∃ b, b = (withRg r i 11 v).2 := ⟨_, rfl⟩
  rw [← hb]
  have HB := Lib.hid hb
  clear hb
  go_wp2
  go_ret
  exact ⟨by rw [HB.out]; rfl, H1.out.1, H1.out.2⟩
theorem pass_any {w : World} {l a g q : Nat} {t : Int} {r : Rg} (h : RgIs w l a g q t r) (i v : Int) :
    Calls Tryz.prog 113 #[.pointer (some ⟨l, 0, none⟩), .int .i64 i, .int .i64 v] w (BegOk w l a g q t (withRg r i 15 v)) := by
  have H := Lib.hid h
  clear h
  go_enter Tryz.func113, Tryz.ntmps113
  go_wp2_with fail
  refine (with_any H.out i 15 v).mono ?_
  rintro en w1 ⟨rfl, h1, t1⟩
  have H1 := Lib.hid (And.intro h1 t1)
  clear h1 t1
  obtain ⟨b, hb⟩ : ∃ b, b = (withRg r i 15 v).2 := ⟨_, rfl⟩
  rw [← hb]
  have HB := Lib.hid hb
  clear hb
  go_wp2
  go_ret
  exact ⟨by rw [HB.out]; rfl, H1.out.1, H1.out.2⟩
theorem next_any {w : World} {l a g q : Nat} {t : Int} {r : Rg} (h : RgIs w l a g q t r) (x : Int) :
    Calls Tryz.prog 134 #[.pointer (some ⟨l, 0, none⟩), .int .i64 x] w fun e w' => e = .returned (.int .i64 (nxA t x)) ∧ w = w' := by
  have c1 : w.cell? ⟨l, 1, none⟩ = some (.int .i64 t) := h.lk.cell 1
  clear h
  go_enter Tryz.func134, Tryz.ntmps134
  go_wp2
  go_ret
  exact ⟨rfl, rfl⟩
theorem stat_any {w : World} {l a g q : Nat} {t : Int} {r : Rg} (h : RgIs w l a g q t r) (x : Int) :
    Calls Tryz.prog 135 #[.pointer (some ⟨l, 0, none⟩), .int .i64 x] w fun e w' => e = .returned (.int .i64 (stA t x)) ∧ w = w' := by
  have c1 : w.cell? ⟨l, 1, none⟩ = some (.int .i64 t) := h.lk.cell 1
  clear h
  go_enter Tryz.func135, Tryz.ntmps135
  go_wp2
  go_ret
  exact ⟨rfl, rfl⟩
end Go.Proofs.YtkdaiomjbkpedaaGreat
end
section
/- Layer 26: a rung's steps (written by wip/gen_rg2.py). -/
namespace Go.Proofs.YtkdaiomjbkpedaaGreat
open Go.RowKit

def StepOk (w : World) (l a g q : Nat) (t : Int) (n : Nat) (r : Rg) (p : Sp) (x : Ar × Sp) (e : Ending) (w' : World) : Prop :=
  e = .returned (.int .i64 x.2.pc) ∧ RgIs w' l a g q t ⟨x.1, r.S.set n { x.2 with pc := p.pc }⟩ ∧ Turns [a, g, q] w w'
theorem same_calls {P : Program} {f : FuncId} {args : Array Value} {w : World} {v : Value} (h : Calls P f args w fun e w' => e = .returned v ∧ w = w') : Calls P f args w fun e w' => e = .returned v ∧ w' = w :=
  h.mono fun _ _ ⟨a, b⟩ => ⟨a, b.symm⟩
theorem RgIs.ar_ {w w' : World} {l a g q : Nat} {t : Int} {r : Rg} (h : RgIs w l a g q t r) {s' : Ar} (hs : ArIs w' a g s') (k : Turns [a, g] w w') : RgIs w' l a g q t ⟨s', r.S⟩ :=
  ⟨hs, k.blk h.lk (by simp [h.la, h.lg]), h.sp.turns k (by simp [h.qa, h.qg]), h.la, h.lg, h.lq, h.qa, h.qg, h.len⟩
theorem RgIs.drew {w : World} {l a g q : Nat} {t : Int} {r : Rg} (h : RgIs w l a g q t r) : RgIs w.drew l a g q t r := h.turns (T := []) ((Turns.refl _ _).drew) (by simp) (by simp) (by simp) (by simp)
theorem set_self {S : List Sp} {n : Nat} {p : Sp} (h : S[n]? = some p) : S.set n p = S := by
  obtain ⟨hk, rfl⟩ := List.getElem?_eq_some_iff.1 h
  simp
theorem swap_call {w : World} {a g : Nat} {s : Ar} (h : ArIs w a g s) (x v r : Int) (hr : r = ldW s.W x) (ho : s.ops + 1 ≤ 1000000000000) :
    Calls Tryz.prog 92 #[.pointer (some ⟨a, 0, none⟩), .int .i64 x, .int .i64 v] w (OpDone w a g (swapA s x v) (.int .i64 r)) := by rw [hr]; exact swap_any h x v ho
theorem load_call {w : World} {a g : Nat} {s : Ar} (h : ArIs w a g s) (x r : Int) (hr : r = ldW s.W x) (ho : s.ops + 1 ≤ 1000000000000) :
    Calls Tryz.prog 94 #[.pointer (some ⟨a, 0, none⟩), .int .i64 x] w (OpDone w a g (loadA s x) (.int .i64 r)) := by rw [hr]; exact load_any h x ho
theorem cas_call {w : World} {a g : Nat} {s : Ar} (h : ArIs w a g s) (x old v : Int) (b : Bool) (hb : casB s x old = b) (ho : s.ops + 1 ≤ 1000000000000) :
    Calls Tryz.prog 95 #[.pointer (some ⟨a, 0, none⟩), .int .i64 x, .int .i64 old, .int .i64 v] w (OpDone w a g (casA s x old v) (.bool b)) := by rw [← hb]; exact cas_any h x old v ho
set_option maxRecDepth 100000 in
set_option maxHeartbeats 1000000 in
theorem in1 {w : World} {l a g q : Nat} {t : Int} {r : Rg} (h : RgIs w l a g q t r) (n : Nat) (p : Sp) (hp : r.S[n]? = some p) (x : Int) (ho : r.ar.ops + 1 ≤ 1000000000000) (hpc : p.pc = 1) :
    Calls Tryz.prog 110 #[.pointer (some ⟨l, 0, none⟩), .pointer (some ⟨q, n * 4, none⟩), .int .i64 x] w (StepOk w l a g q t n r p (inR26 r.ar t x p)) := by
  have y : (p.pc == 1) = true := by rw [hpc]; rfl
  have c0 : w.cell? ⟨l, 0, none⟩ = some (.pointer (some ⟨a, 0, none⟩)) := h.lk.cell 0
  have c1 : w.cell? ⟨l, 1, none⟩ = some (.int .i64 t) := h.lk.cell 1
  have a0 := h.sp.cell hp 0 _ rfl
  have a1 := h.sp.cell hp 1 _ rfl
  have a2 := h.sp.cell hp 2 _ rfl
  have a3 := h.sp.cell hp 3 _ rfl
  simp only [Nat.add_zero] at a0
  have H := Lib.hid (And.intro h (And.intro hp hpc))
  clear h hp hpc
  go_enter Tryz.func110, Tryz.ntmps110
  go_wp2
  refine wp_region_still_tail 7 (by kernel_rfl) (by kernel_rfl) ?_
  simp only [List.take_succ_cons, List.take_zero, List.drop_succ_cons, List.drop_zero]
  change wpStill _ _ (World.drew _) _ _ _
  repeat still_step
  still_call (same_calls (next_any H.out.1.drew x))
  repeat still_step
  refine wpStill_nil ?_
  change wpList _ _ _ _ _ (World.drew w)
  go_wp2_with fail
  refine (store_any H.out.1.drew.ar (nxA t x) 0 ho).mono ?_
  rintro en w1 ⟨rfl, h1, t1⟩
  have H1 := Lib.hid (And.intro (H.out.1.drew.ar_ h1 t1) (Turns.trans ((Turns.refl _ _).drew) t1))
  clear h1 t1
  go_wp2
  go_ret
  have e : inR26 r.ar t x p = (storeA r.ar (nxA t x) 0, { p with pc := 2 }) := by unfold inR26; rw [if_pos H.out.2.2]
  rw [e]
  have e2 : ({ ({ p with pc := 2 } : Sp) with pc := p.pc } : Sp) = p := rfl
  refine ⟨rfl, ?_, H1.out.2.mono (by simp)⟩
  rw [e2, set_self H.out.2.1]
  exact H1.out.1
set_option maxRecDepth 100000 in
set_option maxHeartbeats 1000000 in
theorem in2 {w : World} {l a g q : Nat} {t : Int} {r : Rg} (h : RgIs w l a g q t r) (n : Nat) (p : Sp) (hp : r.S[n]? = some p) (x : Int) (ho : r.ar.ops + 1 ≤ 1000000000000) (hpc : p.pc = 2) :
    Calls Tryz.prog 110 #[.pointer (some ⟨l, 0, none⟩), .pointer (some ⟨q, n * 4, none⟩), .int .i64 x] w (StepOk w l a g q t n r p (inR26 r.ar t x p)) := by
  have y : (p.pc == 2) = true := by rw [hpc]; rfl
  have n1 : (p.pc == 1) = false := by rw [hpc]; rfl
  have c0 : w.cell? ⟨l, 0, none⟩ = some (.pointer (some ⟨a, 0, none⟩)) := h.lk.cell 0
  have c1 : w.cell? ⟨l, 1, none⟩ = some (.int .i64 t) := h.lk.cell 1
  have a0 := h.sp.cell hp 0 _ rfl
  have a1 := h.sp.cell hp 1 _ rfl
  have a2 := h.sp.cell hp 2 _ rfl
  have a3 := h.sp.cell hp 3 _ rfl
  simp only [Nat.add_zero] at a0
  have H := Lib.hid (And.intro h (And.intro hp hpc))
  clear h hp hpc
  go_enter Tryz.func110, Tryz.ntmps110
  go_wp2
  refine wp_region_still_tail 7 (by kernel_rfl) (by kernel_rfl) ?_
  simp only [List.take_succ_cons, List.take_zero, List.drop_succ_cons, List.drop_zero]
  change wpStill _ _ (World.drew _) _ _ _
  repeat still_step
  still_call (same_calls (stat_any H.out.1.drew x))
  repeat still_step
  refine wpStill_nil ?_
  change wpList _ _ _ _ _ (World.drew w)
  go_wp2_with fail
  refine (store_any H.out.1.drew.ar (stA t x) 0 ho).mono ?_
  rintro en w1 ⟨rfl, h1, t1⟩
  have H1 := Lib.hid (And.intro (H.out.1.drew.ar_ h1 t1) (Turns.trans ((Turns.refl _ _).drew) t1))
  clear h1 t1
  go_wp2
  go_ret
  have e : inR26 r.ar t x p = (storeA r.ar (stA t x) 0, { p with pc := 3 }) := by unfold inR26; rw [if_neg (by rw [H.out.2.2]; decide), if_pos H.out.2.2]
  rw [e]
  have e2 : ({ ({ p with pc := 3 } : Sp) with pc := p.pc } : Sp) = p := rfl
  refine ⟨rfl, ?_, H1.out.2.mono (by simp)⟩
  rw [e2, set_self H.out.2.1]
  exact H1.out.1
set_option maxRecDepth 100000 in
set_option maxHeartbeats 1000000 in
theorem in4 {w : World} {l a g q : Nat} {t : Int} {r : Rg} (h : RgIs w l a g q t r) (n : Nat) (p : Sp) (hp : r.S[n]? = some p) (x : Int) (ho : r.ar.ops + 1 ≤ 1000000000000) (hpc : p.pc = 4) :
    Calls Tryz.prog 110 #[.pointer (some ⟨l, 0, none⟩), .pointer (some ⟨q, n * 4, none⟩), .int .i64 x] w (StepOk w l a g q t n r p (inR26 r.ar t x p)) := by
  have y : (p.pc == 4) = true := by rw [hpc]; rfl
  have n1 : (p.pc == 1) = false := by rw [hpc]; rfl
  have n2 : (p.pc == 2) = false := by rw [hpc]; rfl
  have n3 : (p.pc == 3) = false := by rw [hpc]; rfl
  have c0 : w.cell? ⟨l, 0, none⟩ = some (.pointer (some ⟨a, 0, none⟩)) := h.lk.cell 0
  have c1 : w.cell? ⟨l, 1, none⟩ = some (.int .i64 t) := h.lk.cell 1
  have a0 := h.sp.cell hp 0 _ rfl
  have a1 := h.sp.cell hp 1 _ rfl
  have a2 := h.sp.cell hp 2 _ rfl
  have a3 := h.sp.cell hp 3 _ rfl
  simp only [Nat.add_zero] at a0
  have H := Lib.hid (And.intro h (And.intro hp hpc))
  clear h hp hpc
  go_enter Tryz.func110, Tryz.ntmps110
  go_wp2
  refine wp_region_still_tail 11 (by kernel_rfl) (by kernel_rfl) ?_
  simp only [List.take_succ_cons, List.take_zero, List.drop_succ_cons, List.drop_zero]
  change wpStill _ _ (World.drew _) _ _ _
  repeat still_step
  still_call (same_calls (next_any H.out.1.drew p.a))
  repeat still_step
  refine wpStill_nil ?_
  change wpList _ _ _ _ _ (World.drew w)
  go_wp2_with fail
  refine (store_any H.out.1.drew.ar (nxA t p.a) x ho).mono ?_
  rintro en w1 ⟨rfl, h1, t1⟩
  have H1 := Lib.hid (And.intro (H.out.1.drew.ar_ h1 t1) (Turns.trans ((Turns.refl _ _).drew) t1))
  clear h1 t1
  go_wp2
  go_ret
  have e : inR26 r.ar t x p = (storeA r.ar (nxA t p.a) x, { p with pc := 5 }) := by unfold inR26; rw [if_neg (by rw [H.out.2.2]; decide), if_neg (by rw [H.out.2.2]; decide), if_neg (by rw [H.out.2.2]; decide), if_pos H.out.2.2]
  rw [e]
  have e2 : ({ ({ p with pc := 5 } : Sp) with pc := p.pc } : Sp) = p := rfl
  refine ⟨rfl, ?_, H1.out.2.mono (by simp)⟩
  rw [e2, set_self H.out.2.1]
  exact H1.out.1
set_option maxRecDepth 100000 in
set_option maxHeartbeats 1000000 in
theorem in6 {w : World} {l a g q : Nat} {t : Int} {r : Rg} (h : RgIs w l a g q t r) (n : Nat) (p : Sp) (hp : r.S[n]? = some p) (x : Int) (ho : r.ar.ops + 1 ≤ 1000000000000) (hpc : p.pc = 6) :
    Calls Tryz.prog 110 #[.pointer (some ⟨l, 0, none⟩), .pointer (some ⟨q, n * 4, none⟩), .int .i64 x] w (StepOk w l a g q t n r p (inR26 r.ar t x p)) := by
  have n1 : (p.pc == 1) = false := by rw [beq_eq_false_iff_ne]; omega
  have n2 : (p.pc == 2) = false := by rw [beq_eq_false_iff_ne]; omega
  have n3 : (p.pc == 3) = false := by rw [beq_eq_false_iff_ne]; omega
  have n4 : (p.pc == 4) = false := by rw [beq_eq_false_iff_ne]; omega
  have n5 : (p.pc == 5) = false := by rw [beq_eq_false_iff_ne]; omega
  have c0 : w.cell? ⟨l, 0, none⟩ = some (.pointer (some ⟨a, 0, none⟩)) := h.lk.cell 0
  have c1 : w.cell? ⟨l, 1, none⟩ = some (.int .i64 t) := h.lk.cell 1
  have a0 := h.sp.cell hp 0 _ rfl
  have a1 := h.sp.cell hp 1 _ rfl
  have a2 := h.sp.cell hp 2 _ rfl
  have a3 := h.sp.cell hp 3 _ rfl
  simp only [Nat.add_zero] at a0
  have H := Lib.hid (And.intro h (And.intro hp hpc))
  clear h hp hpc
  go_enter Tryz.func110, Tryz.ntmps110
  go_wp2
  refine wp_region_still_tail 7 (by kernel_rfl) (by kernel_rfl) ?_
  simp only [List.take_succ_cons, List.take_zero, List.drop_succ_cons, List.drop_zero]
  change wpStill _ _ (World.drew _) _ _ _
  repeat still_step
  still_call (same_calls (stat_any H.out.1.drew x))
  repeat still_step
  refine wpStill_nil ?_
  change wpList _ _ _ _ _ (World.drew w)
  go_wp2_with fail
  refine (store_any H.out.1.drew.ar (stA t x) 1 ho).mono ?_
  rintro en w1 ⟨rfl, h1, t1⟩
  have H1 := Lib.hid (And.intro (H.out.1.drew.ar_ h1 t1) (Turns.trans ((Turns.refl _ _).drew) t1))
  have hsp := H1.out.1.sp
  have d1 := hsp.cell H.out.2.1 1 _ rfl
  have d2 := hsp.cell H.out.2.1 2 _ rfl
  have f1 := hsp.free (n * 4 + 1)
  have f2 := hsp.free (n * 4 + 2)
  clear h1 t1 hsp
  go_wp2
  go_ret
  have e : inR26 r.ar t x p = (storeA r.ar (stA t x) 1, { p with a := 1, b := 1, pc := 10 }) := by unfold inR26; rw [if_neg (by rw [H.out.2.2]; decide), if_neg (by rw [H.out.2.2]; decide), if_neg (by rw [H.out.2.2]; decide), if_neg (by rw [H.out.2.2]; decide), if_neg (by rw [H.out.2.2]; decide)]
  rw [e]
  have g1 := H1.out.1.sp.put H.out.2.1 (j := 1) (u := .int .i64 1) (p' := { p with a := 1 }) (by decide) rfl
  have hn : n < r.S.length := (List.getElem?_eq_some_iff.1 H.out.2.1).1
  have g2 := g1.put (i := n) (p := { p with a := 1 }) (by simp [hn]) (j := 2) (u := .int .i64 1) (p' := { p with a := 1, b := 1 }) (by decide) rfl
  have ht : Turns [q] w1 ((w1.setCell ⟨q, n * 4 + 1, none⟩ (.int .i64 1)).setCell ⟨q, n * 4 + 2, none⟩ (.int .i64 1)) := ((Turns.refl _ _).setCell (.inl (by simp)) _).setCell (.inl (by simp)) _
  refine ⟨rfl, ?_, (H1.out.2.mono (by simp)).trans (ht.mono (by simp))⟩
  have := H1.out.1.spot g2 (by simp) ht
  simpa using this
set_option maxRecDepth 100000 in
set_option maxHeartbeats 1000000 in
theorem in3 {w : World} {l a g q : Nat} {t : Int} {r : Rg} (h : RgIs w l a g q t r) (n : Nat) (p : Sp) (hp : r.S[n]? = some p) (x : Int) (ho : r.ar.ops + 1 ≤ 1000000000000) (hpc : p.pc = 3) :
    Calls Tryz.prog 110 #[.pointer (some ⟨l, 0, none⟩), .pointer (some ⟨q, n * 4, none⟩), .int .i64 x] w (StepOk w l a g q t n r p (inR26 r.ar t x p)) := by
  have y : (p.pc == 3) = true := by rw [hpc]; rfl
  have n1 : (p.pc == 1) = false := by rw [hpc]; rfl
  have n2 : (p.pc == 2) = false := by rw [hpc]; rfl
  have c0 : w.cell? ⟨l, 0, none⟩ = some (.pointer (some ⟨a, 0, none⟩)) := h.lk.cell 0
  have c1 : w.cell? ⟨l, 1, none⟩ = some (.int .i64 t) := h.lk.cell 1
  have a0 := h.sp.cell hp 0 _ rfl
  have a1 := h.sp.cell hp 1 _ rfl
  have a2 := h.sp.cell hp 2 _ rfl
  have a3 := h.sp.cell hp 3 _ rfl
  simp only [Nat.add_zero] at a0
  have H := Lib.hid (And.intro h (And.intro hp hpc))
  clear h hp hpc
  go_enter Tryz.func110, Tryz.ntmps110
  go_wp2
  obtain ⟨v, hv⟩ : ∃ v, v = ldW r.ar.W t := ⟨_, rfl⟩
  have HV := Lib.hid hv
  clear hv
  have HD := Lib.hid H.out.1.drew
  go_region_held3 (fun W => W.cell? ⟨l, 0, none⟩ = some (.pointer (some ⟨a, 0, none⟩)) ∧ W.cell? ⟨l, 1, none⟩ = some (.int .i64 t))
    (first | exact ⟨c0, c1⟩ | exact ⟨k0, k1⟩ | exact hk.out _ _)
    (first
      | (go_at_call 92; go_loud (refine (swap_call HD.out.ar t x v HV.out ho).mono ?_); rintro en w1 ⟨rfl, h1, t1⟩; have H1 := Lib.hid (And.intro (HD.out.ar_ h1 t1) (Turns.trans ((Turns.refl _ _).drew) t1)); have k0 : w1.cell? ⟨l, 0, none⟩ = some (.pointer (some ⟨a, 0, none⟩)) := H1.out.1.lk.cell 0; have k1 : w1.cell? ⟨l, 1, none⟩ = some (.int .i64 t) := H1.out.1.lk.cell 1; have hk : Hid (∀ (o : Nat) (u : Value), (w1.setCell ⟨q, o, none⟩ u).cell? ⟨l, 0, none⟩ = some (.pointer (some ⟨a, 0, none⟩)) ∧ (w1.setCell ⟨q, o, none⟩ u).cell? ⟨l, 1, none⟩ = some (.int .i64 t)) := Lib.hid fun o u => ⟨(H1.out.1.lk.far (p := ⟨q, o, none⟩) H1.out.1.lq u).cell 0, (H1.out.1.lk.far (p := ⟨q, o, none⟩) H1.out.1.lq u).cell 1⟩; have d0 := H1.out.1.sp.cell H.out.2.1 0 _ rfl; simp only [Nat.add_zero] at d0; have d1 := H1.out.1.sp.cell H.out.2.1 1 _ rfl; have d2 := H1.out.1.sp.cell H.out.2.1 2 _ rfl; have f1 := H1.out.1.sp.free (n * 4 + 1); have f2 := H1.out.1.sp.free (n * 4 + 2)))
  all_goals clear h1 t1
  cases hz : (v == 0)
  · have HZ : Hid (¬ v = 0) := Lib.hid (by simpa using hz)
    go_wp2
    go_ret
    have e : inR26 r.ar t x p = (swapA r.ar t x, { p with a := v, pc := 4 }) := by unfold inR26; rw [if_neg (by rw [H.out.2.2]; decide), if_neg (by rw [H.out.2.2]; decide), if_pos H.out.2.2, ← HV.out, if_neg HZ.out]
    rw [e]
    have g1 := H1.out.1.sp.put H.out.2.1 (j := 1) (u := .int .i64 v) (p' := { p with a := v }) (by decide) rfl
    have ht : Turns [q] w1 (w1.setCell ⟨q, n * 4 + 1, none⟩ (.int .i64 v)) := (Turns.refl _ _).setCell (.inl (by simp)) _
    refine ⟨rfl, ?_, (H1.out.2.mono (by simp)).trans (ht.mono (by simp))⟩
    have := H1.out.1.spot g1 (by simp) ht
    simpa using this
  · have HZ : Hid (v = 0) := Lib.hid (by simpa using hz)
    go_wp2
    go_ret
    have e : inR26 r.ar t x p = (swapA r.ar t x, { p with a := v, pc := 6 }) := by unfold inR26; rw [if_neg (by rw [H.out.2.2]; decide), if_neg (by rw [H.out.2.2]; decide), if_pos H.out.2.2, ← HV.out, if_pos HZ.out]
    rw [e]
    have g1 := H1.out.1.sp.put H.out.2.1 (j := 1) (u := .int .i64 v) (p' := { p with a := v }) (by decide) rfl
    have ht : Turns [q] w1 (w1.setCell ⟨q, n * 4 + 1, none⟩ (.int .i64 v)) := (Turns.refl _ _).setCell (.inl (by simp)) _
    refine ⟨rfl, ?_, (H1.out.2.mono (by simp)).trans (ht.mono (by simp))⟩
    have := H1.out.1.spot g1 (by simp) ht
    simpa using this
set_option maxRecDepth 100000 in
set_option maxHeartbeats 1000000 in
theorem in5 {w : World} {l a g q : Nat} {t : Int} {r : Rg} (h : RgIs w l a g q t r) (n : Nat) (p : Sp) (hp : r.S[n]? = some p) (x : Int) (ho : r.ar.ops + 1 ≤ 1000000000000) (hpc : p.pc = 5) :
    Calls Tryz.prog 110 #[.pointer (some ⟨l, 0, none⟩), .pointer (some ⟨q, n * 4, none⟩), .int .i64 x] w (StepOk w l a g q t n r p (inR26 r.ar t x p)) := by
  have y : (p.pc == 5) = true := by rw [hpc]; rfl
  have n1 : (p.pc == 1) = false := by rw [hpc]; rfl
  have n2 : (p.pc == 2) = false := by rw [hpc]; rfl
  have n3 : (p.pc == 3) = false := by rw [hpc]; rfl
  have n4 : (p.pc == 4) = false := by rw [hpc]; rfl
  have c0 : w.cell? ⟨l, 0, none⟩ = some (.pointer (some ⟨a, 0, none⟩)) := h.lk.cell 0
  have c1 : w.cell? ⟨l, 1, none⟩ = some (.int .i64 t) := h.lk.cell 1
  have a0 := h.sp.cell hp 0 _ rfl
  have a1 := h.sp.cell hp 1 _ rfl
  have a2 := h.sp.cell hp 2 _ rfl
  have a3 := h.sp.cell hp 3 _ rfl
  simp only [Nat.add_zero] at a0
  have H := Lib.hid (And.intro h (And.intro hp hpc))
  clear h hp hpc
  go_enter Tryz.func110, Tryz.ntmps110
  go_wp2
  obtain ⟨v, hv⟩ : ∃ v, v = ldW r.ar.W (stA t x) := ⟨_, rfl⟩
  have HV := Lib.hid hv
  clear hv
  have HD := Lib.hid H.out.1.drew
  go_region_held3 (fun W => W.cell? ⟨l, 0, none⟩ = some (.pointer (some ⟨a, 0, none⟩)) ∧ W.cell? ⟨l, 1, none⟩ = some (.int .i64 t))
    (first | exact ⟨c0, c1⟩ | exact ⟨k0, k1⟩ | exact hk.out _ _)
    (first
      | (go_at_call 135; go_loud (refine (stat_any HD.out x).mono ?_); rintro en w1 ⟨rfl, rfl⟩)
      | (go_at_call 94; go_loud (refine (load_call HD.out.ar (stA t x) v HV.out ho).mono ?_); rintro en w1 ⟨rfl, h1, t1⟩; have H1 := Lib.hid (And.intro (HD.out.ar_ h1 t1) (Turns.trans ((Turns.refl _ _).drew) t1)); have k0 : w1.cell? ⟨l, 0, none⟩ = some (.pointer (some ⟨a, 0, none⟩)) := H1.out.1.lk.cell 0; have k1 : w1.cell? ⟨l, 1, none⟩ = some (.int .i64 t) := H1.out.1.lk.cell 1; have hk : Hid (∀ (o : Nat) (u : Value), (w1.setCell ⟨q, o, none⟩ u).cell? ⟨l, 0, none⟩ = some (.pointer (some ⟨a, 0, none⟩)) ∧ (w1.setCell ⟨q, o, none⟩ u).cell? ⟨l, 1, none⟩ = some (.int .i64 t)) := Lib.hid fun o u => ⟨(H1.out.1.lk.far (p := ⟨q, o, none⟩) H1.out.1.lq u).cell 0, (H1.out.1.lk.far (p := ⟨q, o, none⟩) H1.out.1.lq u).cell 1⟩; have d0 := H1.out.1.sp.cell H.out.2.1 0 _ rfl; simp only [Nat.add_zero] at d0; have d1 := H1.out.1.sp.cell H.out.2.1 1 _ rfl; have d2 := H1.out.1.sp.cell H.out.2.1 2 _ rfl; have f1 := H1.out.1.sp.free (n * 4 + 1); have f2 := H1.out.1.sp.free (n * 4 + 2)))
  all_goals clear h1 t1
  by_cases hz : 0 < v
  · have HZ := Lib.hid hz
    go_wp2
    go_ret
    have e : inR26 r.ar t x p = (loadA r.ar (stA t x), { p with a := v, b := 0, pc := 10 }) := by unfold inR26; rw [if_neg (by rw [H.out.2.2]; decide), if_neg (by rw [H.out.2.2]; decide), if_neg (by rw [H.out.2.2]; decide), if_neg (by rw [H.out.2.2]; decide), if_pos H.out.2.2, ← HV.out, if_pos HZ.out]
    rw [e]
    have g1 := H1.out.1.sp.put H.out.2.1 (j := 1) (u := .int .i64 v) (p' := { p with a := v }) (by decide) rfl
    have hn : n < r.S.length := (List.getElem?_eq_some_iff.1 H.out.2.1).1
    have g2 := g1.put (i := n) (p := { p with a := v }) (by simp [hn]) (j := 2) (u := .int .i64 0) (p' := { p with a := v, b := 0 }) (by decide) rfl
    have ht : Turns [q] w1 ((w1.setCell ⟨q, n * 4 + 1, none⟩ (.int .i64 v)).setCell ⟨q, n * 4 + 2, none⟩ (.int .i64 0)) := ((Turns.refl _ _).setCell (.inl (by simp)) _).setCell (.inl (by simp)) _
    refine ⟨rfl, ?_, (H1.out.2.mono (by simp)).trans (ht.mono (by simp))⟩
    have := H1.out.1.spot g2 (by simp) ht
    simpa using this
  · by_cases hz2 : v < 0
    · have HZ := Lib.hid (And.intro hz hz2)
      go_wp2
      go_ret
      have e : inR26 r.ar t x p = (loadA r.ar (stA t x), { p with a := v, pc := 6 }) := by unfold inR26; rw [if_neg (by rw [H.out.2.2]; decide), if_neg (by rw [H.out.2.2]; decide), if_neg (by rw [H.out.2.2]; decide), if_neg (by rw [H.out.2.2]; decide), if_pos H.out.2.2, ← HV.out, if_neg (show ¬ 0 < v by have := HZ.out.1; omega), if_pos HZ.out.2]
      rw [e]
      have g1 := H1.out.1.sp.put H.out.2.1 (j := 1) (u := .int .i64 v) (p' := { p with a := v }) (by decide) rfl
      have ht : Turns [q] w1 (w1.setCell ⟨q, n * 4 + 1, none⟩ (.int .i64 v)) := (Turns.refl _ _).setCell (.inl (by simp)) _
      refine ⟨rfl, ?_, (H1.out.2.mono (by simp)).trans (ht.mono (by simp))⟩
      have := H1.out.1.spot g1 (by simp) ht
      simpa using this
    · have HZ := Lib.hid (And.intro hz hz2)
      go_wp2
      go_ret
      have e : inR26 r.ar t x p = (loadA r.ar (stA t x), { p with a := v, pc := 5 }) := by unfold inR26; rw [if_neg (by rw [H.out.2.2]; decide), if_neg (by rw [H.out.2.2]; decide), if_neg (by rw [H.out.2.2]; decide), if_neg (by rw [H.out.2.2]; decide), if_pos H.out.2.2, ← HV.out, if_neg (show ¬ 0 < v by have := HZ.out.1; omega), if_neg (show ¬ v < 0 by have := HZ.out.2; omega)]
      rw [e]
      have g1 := H1.out.1.sp.put H.out.2.1 (j := 1) (u := .int .i64 v) (p' := { p with a := v }) (by decide) rfl
      have ht : Turns [q] w1 (w1.setCell ⟨q, n * 4 + 1, none⟩ (.int .i64 v)) := (Turns.refl _ _).setCell (.inl (by simp)) _
      refine ⟨rfl, ?_, (H1.out.2.mono (by simp)).trans (ht.mono (by simp))⟩
      have := H1.out.1.spot g1 (by simp) ht
      simpa using this
set_option maxRecDepth 100000 in
set_option maxHeartbeats 1000000 in
theorem out12 {w : World} {l a g q : Nat} {t : Int} {r : Rg} (h : RgIs w l a g q t r) (n : Nat) (p : Sp) (hp : r.S[n]? = some p) (x : Int) (ho : r.ar.ops + 1 ≤ 1000000000000) (hpc : p.pc = 12) :
    Calls Tryz.prog 111 #[.pointer (some ⟨l, 0, none⟩), .pointer (some ⟨q, n * 4, none⟩), .int .i64 x] w (StepOk w l a g q t n r p (outR26 r.ar t x p)) := by
  have y : (p.pc == 12) = true := by rw [hpc]; rfl
  have c0 : w.cell? ⟨l, 0, none⟩ = some (.pointer (some ⟨a, 0, none⟩)) := h.lk.cell 0
  have c1 : w.cell? ⟨l, 1, none⟩ = some (.int .i64 t) := h.lk.cell 1
  have a0 := h.sp.cell hp 0 _ rfl
  have a1 := h.sp.cell hp 1 _ rfl
  have a2 := h.sp.cell hp 2 _ rfl
  have a3 := h.sp.cell hp 3 _ rfl
  simp only [Nat.add_zero] at a0
  have H := Lib.hid (And.intro h (And.intro hp hpc))
  clear h hp hpc
  go_enter Tryz.func111, Tryz.ntmps111
  go_wp2
  cases hb : casB r.ar t x
  · have HB := Lib.hid hb
    clear hb
    refine wp_region_still_tail 9 (by kernel_rfl) (by kernel_rfl) ?_
    simp only [List.take_succ_cons, List.take_zero, List.drop_succ_cons, List.drop_zero]
    change wpStill _ _ (World.drew _) _ _ _
    repeat still_step
    refine wpStill_nil ?_
    change wpList _ _ _ _ _ (World.drew w)
    go_wp2_with fail
    refine (cas_call H.out.1.drew.ar t x 0 false HB.out ho).mono ?_
    rintro en w1 ⟨rfl, h1, t1⟩
    have H1 := Lib.hid (And.intro (H.out.1.drew.ar_ h1 t1) (Turns.trans ((Turns.refl _ _).drew) t1))
    clear h1 t1
    go_wp2
    go_ret
    have e : outR26 r.ar t x p = (casA r.ar t x 0, { p with pc := 13 }) := by unfold outR26; rw [if_pos H.out.2.2, HB.out]; rfl
    rw [e]
    have e2 : ({ ({ p with pc := 13 } : Sp) with pc := p.pc } : Sp) = p := rfl
    refine ⟨rfl, ?_, H1.out.2.mono (by simp)⟩
    rw [e2, set_self H.out.2.1]
    exact H1.out.1
  · have HB := Lib.hid hb
    clear hb
    refine wp_region_still_tail 9 (by kernel_rfl) (by kernel_rfl) ?_
    simp only [List.take_succ_cons, List.take_zero, List.drop_succ_cons, List.drop_zero]
    change wpStill _ _ (World.drew _) _ _ _
    repeat still_step
    refine wpStill_nil ?_
    change wpList _ _ _ _ _ (World.drew w)
    go_wp2_with fail
    refine (cas_call H.out.1.drew.ar t x 0 true HB.out ho).mono ?_
    rintro en w1 ⟨rfl, h1, t1⟩
    have H1 := Lib.hid (And.intro (H.out.1.drew.ar_ h1 t1) (Turns.trans ((Turns.refl _ _).drew) t1))
    clear h1 t1
    go_wp2
    go_ret
    have e : outR26 r.ar t x p = (casA r.ar t x 0, { p with pc := 0 }) := by unfold outR26; rw [if_pos H.out.2.2, HB.out]; rfl
    rw [e]
    have e2 : ({ ({ p with pc := 0 } : Sp) with pc := p.pc } : Sp) = p := rfl
    refine ⟨rfl, ?_, H1.out.2.mono (by simp)⟩
    rw [e2, set_self H.out.2.1]
    exact H1.out.1
set_option maxRecDepth 100000 in
set_option maxHeartbeats 1000000 in
theorem out14 {w : World} {l a g q : Nat} {t : Int} {r : Rg} (h : RgIs w l a g q t r) (n : Nat) (p : Sp) (hp : r.S[n]? = some p) (x : Int) (ho : r.ar.ops + 1 ≤ 1000000000000) (hpc : p.pc = 14) :
    Calls Tryz.prog 111 #[.pointer (some ⟨l, 0, none⟩), .pointer (some ⟨q, n * 4, none⟩), .int .i64 x] w (StepOk w l a g q t n r p (outR26 r.ar t x p)) := by
  have y : (p.pc == 14) = true := by rw [hpc]; rfl
  have n12 : (p.pc == 12) = false := by rw [hpc]; rfl
  have c0 : w.cell? ⟨l, 0, none⟩ = some (.pointer (some ⟨a, 0, none⟩)) := h.lk.cell 0
  have c1 : w.cell? ⟨l, 1, none⟩ = some (.int .i64 t) := h.lk.cell 1
  have a0 := h.sp.cell hp 0 _ rfl
  have a1 := h.sp.cell hp 1 _ rfl
  have a2 := h.sp.cell hp 2 _ rfl
  have a3 := h.sp.cell hp 3 _ rfl
  simp only [Nat.add_zero] at a0
  have H := Lib.hid (And.intro h (And.intro hp hpc))
  clear h hp hpc
  go_enter Tryz.func111, Tryz.ntmps111
  go_wp2
  refine wp_region_still_tail 14 (by kernel_rfl) (by kernel_rfl) ?_
  simp only [List.take_succ_cons, List.take_zero, List.drop_succ_cons, List.drop_zero]
  change wpStill _ _ (World.drew _) _ _ _
  repeat still_step
  still_call (same_calls (stat_any H.out.1.drew p.a))
  repeat still_step
  refine wpStill_nil ?_
  change wpList _ _ _ _ _ (World.drew w)
  go_wp2_with fail
  refine (store_any H.out.1.drew.ar (stA t p.a) p.c ho).mono ?_
  rintro en w1 ⟨rfl, h1, t1⟩
  have H1 := Lib.hid (And.intro (H.out.1.drew.ar_ h1 t1) (Turns.trans ((Turns.refl _ _).drew) t1))
  clear h1 t1
  go_wp2
  go_ret
  have e : outR26 r.ar t x p = (storeA r.ar (stA t p.a) p.c, { p with pc := 0 }) := by unfold outR26; rw [if_neg (by rw [H.out.2.2]; decide), if_pos H.out.2.2]
  rw [e]
  have e2 : ({ ({ p with pc := 0 } : Sp) with pc := p.pc } : Sp) = p := rfl
  refine ⟨rfl, ?_, H1.out.2.mono (by simp)⟩
  rw [e2, set_self H.out.2.1]
  exact H1.out.1
set_option maxRecDepth 100000 in
set_option maxHeartbeats 1000000 in
theorem out16 {w : World} {l a g q : Nat} {t : Int} {r : Rg} (h : RgIs w l a g q t r) (n : Nat) (p : Sp) (hp : r.S[n]? = some p) (x : Int) (ho : r.ar.ops + 1 ≤ 1000000000000) (hpc : p.pc = 16) :
    Calls Tryz.prog 111 #[.pointer (some ⟨l, 0, none⟩), .pointer (some ⟨q, n * 4, none⟩), .int .i64 x] w (StepOk w l a g q t n r p (outR26 r.ar t x p)) := by
  have y : (p.pc == 16) = true := by rw [hpc]; rfl
  have n12 : (p.pc == 12) = false := by rw [hpc]; rfl
  have n14 : (p.pc == 14) = false := by rw [hpc]; rfl
  have n15 : (p.pc == 15) = false := by rw [hpc]; rfl
  have c0 : w.cell? ⟨l, 0, none⟩ = some (.pointer (some ⟨a, 0, none⟩)) := h.lk.cell 0
  have c1 : w.cell? ⟨l, 1, none⟩ = some (.int .i64 t) := h.lk.cell 1
  have a0 := h.sp.cell hp 0 _ rfl
  have a1 := h.sp.cell hp 1 _ rfl
  have a2 := h.sp.cell hp 2 _ rfl
  have a3 := h.sp.cell hp 3 _ rfl
  simp only [Nat.add_zero] at a0
  have H := Lib.hid (And.intro h (And.intro hp hpc))
  clear h hp hpc
  go_enter Tryz.func111, Tryz.ntmps111
  go_wp2
  refine wp_region_still_tail 14 (by kernel_rfl) (by kernel_rfl) ?_
  simp only [List.take_succ_cons, List.take_zero, List.drop_succ_cons, List.drop_zero]
  change wpStill _ _ (World.drew _) _ _ _
  repeat still_step
  still_call (same_calls (stat_any H.out.1.drew p.b))
  repeat still_step
  refine wpStill_nil ?_
  change wpList _ _ _ _ _ (World.drew w)
  go_wp2_with fail
  refine (store_any H.out.1.drew.ar (stA t p.b) p.c ho).mono ?_
  rintro en w1 ⟨rfl, h1, t1⟩
  have H1 := Lib.hid (And.intro (H.out.1.drew.ar_ h1 t1) (Turns.trans ((Turns.refl _ _).drew) t1))
  clear h1 t1
  go_wp2
  go_ret
  have e : outR26 r.ar t x p = (storeA r.ar (stA t p.b) p.c, { p with pc := 0 }) := by unfold outR26; rw [if_neg (by rw [H.out.2.2]; decide), if_neg (by rw [H.out.2.2]; decide), if_neg (by rw [H.out.2.2]; decide), if_pos H.out.2.2]
  rw [e]
  have e2 : ({ ({ p with pc := 0 } : Sp) with pc := p.pc } : Sp) = p := rfl
  refine ⟨rfl, ?_, H1.out.2.mono (by simp)⟩
  rw [e2, set_self H.out.2.1]
  exact H1.out.1
set_option maxRecDepth 100000 in
set_option maxHeartbeats 1000000 in
theorem out15 {w : World} {l a g q : Nat} {t : Int} {r : Rg} (h : RgIs w l a g q t r) (n : Nat) (p : Sp) (hp : r.S[n]? = some p) (x : Int) (ho : r.ar.ops + 1 ≤ 1000000000000) (hpc : p.pc = 15) :
    Calls Tryz.prog 111 #[.pointer (some ⟨l, 0, none⟩), .pointer (some ⟨q, n * 4, none⟩), .int .i64 x] w (StepOk w l a g q t n r p (outR26 r.ar t x p)) := by
  have y : (p.pc == 15) = true := by rw [hpc]; rfl
  have n12 : (p.pc == 12) = false := by rw [hpc]; rfl
  have n14 : (p.pc == 14) = false := by rw [hpc]; rfl
  have c0 : w.cell? ⟨l, 0, none⟩ = some (.pointer (some ⟨a, 0, none⟩)) := h.lk.cell 0
  have c1 : w.cell? ⟨l, 1, none⟩ = some (.int .i64 t) := h.lk.cell 1
  have a0 := h.sp.cell hp 0 _ rfl
  have a1 := h.sp.cell hp 1 _ rfl
  have a2 := h.sp.cell hp 2 _ rfl
  have a3 := h.sp.cell hp 3 _ rfl
  simp only [Nat.add_zero] at a0
  have H := Lib.hid (And.intro h (And.intro hp hpc))
  clear h hp hpc
  go_enter Tryz.func111, Tryz.ntmps111
  go_wp2
  obtain ⟨v, hv⟩ : ∃ v, v = ldW r.ar.W (nxA t x) := ⟨_, rfl⟩
  have HV := Lib.hid hv
  clear hv
  have HD := Lib.hid H.out.1.drew
  go_region_held3 (fun W => W.cell? ⟨l, 0, none⟩ = some (.pointer (some ⟨a, 0, none⟩)) ∧ W.cell? ⟨l, 1, none⟩ = some (.int .i64 t))
    (first | exact ⟨c0, c1⟩ | exact ⟨k0, k1⟩ | exact hk.out _ _)
    (first
      | (go_at_call 134; go_loud (refine (next_any HD.out x).mono ?_); rintro en w1 ⟨rfl, rfl⟩)
      | (go_at_call 94; go_loud (refine (load_call HD.out.ar (nxA t x) v HV.out ho).mono ?_); rintro en w1 ⟨rfl, h1, t1⟩; have H1 := Lib.hid (And.intro (HD.out.ar_ h1 t1) (Turns.trans ((Turns.refl _ _).drew) t1)); have k0 : w1.cell? ⟨l, 0, none⟩ = some (.pointer (some ⟨a, 0, none⟩)) := H1.out.1.lk.cell 0; have k1 : w1.cell? ⟨l, 1, none⟩ = some (.int .i64 t) := H1.out.1.lk.cell 1; have hk : Hid (∀ (o : Nat) (u : Value), (w1.setCell ⟨q, o, none⟩ u).cell? ⟨l, 0, none⟩ = some (.pointer (some ⟨a, 0, none⟩)) ∧ (w1.setCell ⟨q, o, none⟩ u).cell? ⟨l, 1, none⟩ = some (.int .i64 t)) := Lib.hid fun o u => ⟨(H1.out.1.lk.far (p := ⟨q, o, none⟩) H1.out.1.lq u).cell 0, (H1.out.1.lk.far (p := ⟨q, o, none⟩) H1.out.1.lq u).cell 1⟩; have d0 := H1.out.1.sp.cell H.out.2.1 0 _ rfl; simp only [Nat.add_zero] at d0; have d1 := H1.out.1.sp.cell H.out.2.1 1 _ rfl; have d2 := H1.out.1.sp.cell H.out.2.1 2 _ rfl; have f1 := H1.out.1.sp.free (n * 4 + 1); have f2 := H1.out.1.sp.free (n * 4 + 2)))
  all_goals clear h1 t1
  cases hz : (v == 0)
  · have HZ : Hid (¬ v = 0) := Lib.hid (by simpa using hz)
    go_wp2
    go_ret
    have e : outR26 r.ar t x p = (loadA r.ar (nxA t x), { p with b := v, pc := 16 }) := by unfold outR26; rw [if_neg (by rw [H.out.2.2]; decide), if_neg (by rw [H.out.2.2]; decide), if_pos H.out.2.2, ← HV.out, if_neg HZ.out]
    rw [e]
    have g1 := H1.out.1.sp.put H.out.2.1 (j := 2) (u := .int .i64 v) (p' := { p with b := v }) (by decide) rfl
    have ht : Turns [q] w1 (w1.setCell ⟨q, n * 4 + 2, none⟩ (.int .i64 v)) := (Turns.refl _ _).setCell (.inl (by simp)) _
    refine ⟨rfl, ?_, (H1.out.2.mono (by simp)).trans (ht.mono (by simp))⟩
    have := H1.out.1.spot g1 (by simp) ht
    simpa using this
  · have HZ : Hid (v = 0) := Lib.hid (by simpa using hz)
    go_wp2
    go_ret
    have e : outR26 r.ar t x p = (loadA r.ar (nxA t x), { p with b := v, pc := 10 }) := by unfold outR26; rw [if_neg (by rw [H.out.2.2]; decide), if_neg (by rw [H.out.2.2]; decide), if_pos H.out.2.2, ← HV.out, if_pos HZ.out]
    rw [e]
    have g1 := H1.out.1.sp.put H.out.2.1 (j := 2) (u := .int .i64 v) (p' := { p with b := v }) (by decide) rfl
    have ht : Turns [q] w1 (w1.setCell ⟨q, n * 4 + 2, none⟩ (.int .i64 v)) := (Turns.refl _ _).setCell (.inl (by simp)) _
    refine ⟨rfl, ?_, (H1.out.2.mono (by simp)).trans (ht.mono (by simp))⟩
    have := H1.out.1.spot g1 (by simp) ht
    simpa using this
set_option maxRecDepth 100000 in
set_option maxHeartbeats 1000000 in
theorem out11 {w : World} {l a g q : Nat} {t : Int} {r : Rg} (h : RgIs w l a g q t r) (n : Nat) (p : Sp) (hp : r.S[n]? = some p) (x : Int) (ho : r.ar.ops + 1 ≤ 1000000000000) (hpc : p.pc = 11) :
    Calls Tryz.prog 111 #[.pointer (some ⟨l, 0, none⟩), .pointer (some ⟨q, n * 4, none⟩), .int .i64 x] w (StepOk w l a g q t n r p (outR26 r.ar t x p)) := by
  have y : (p.pc == 11) = true := by rw [hpc]; rfl
  have n12 : (p.pc == 12) = false := by rw [hpc]; rfl
  have n14 : (p.pc == 14) = false := by rw [hpc]; rfl
  have n15 : (p.pc == 15) = false := by rw [hpc]; rfl
  have n16 : (p.pc == 16) = false := by rw [hpc]; rfl
  have c0 : w.cell? ⟨l, 0, none⟩ = some (.pointer (some ⟨a, 0, none⟩)) := h.lk.cell 0
  have c1 : w.cell? ⟨l, 1, none⟩ = some (.int .i64 t) := h.lk.cell 1
  have a0 := h.sp.cell hp 0 _ rfl
  have a1 := h.sp.cell hp 1 _ rfl
  have a2 := h.sp.cell hp 2 _ rfl
  have a3 := h.sp.cell hp 3 _ rfl
  simp only [Nat.add_zero] at a0
  have H := Lib.hid (And.intro h (And.intro hp hpc))
  clear h hp hpc
  go_enter Tryz.func111, Tryz.ntmps111
  go_wp2
  obtain ⟨v, hv⟩ : ∃ v, v = ldW r.ar.W (nxA t x) := ⟨_, rfl⟩
  have HV := Lib.hid hv
  clear hv
  have HD := Lib.hid H.out.1.drew
  go_region_held3 (fun W => W.cell? ⟨l, 0, none⟩ = some (.pointer (some ⟨a, 0, none⟩)) ∧ W.cell? ⟨l, 1, none⟩ = some (.int .i64 t))
    (first | exact ⟨c0, c1⟩ | exact ⟨k0, k1⟩ | exact hk.out _ _)
    (first
      | (go_at_call 134; go_loud (refine (next_any HD.out x).mono ?_); rintro en w1 ⟨rfl, rfl⟩)
      | (go_at_call 94; go_loud (refine (load_call HD.out.ar (nxA t x) v HV.out ho).mono ?_); rintro en w1 ⟨rfl, h1, t1⟩; have H1 := Lib.hid (And.intro (HD.out.ar_ h1 t1) (Turns.trans ((Turns.refl _ _).drew) t1)); have k0 : w1.cell? ⟨l, 0, none⟩ = some (.pointer (some ⟨a, 0, none⟩)) := H1.out.1.lk.cell 0; have k1 : w1.cell? ⟨l, 1, none⟩ = some (.int .i64 t) := H1.out.1.lk.cell 1; have hk : Hid (∀ (o : Nat) (u : Value), (w1.setCell ⟨q, o, none⟩ u).cell? ⟨l, 0, none⟩ = some (.pointer (some ⟨a, 0, none⟩)) ∧ (w1.setCell ⟨q, o, none⟩ u).cell? ⟨l, 1, none⟩ = some (.int .i64 t)) := Lib.hid fun o u => ⟨(H1.out.1.lk.far (p := ⟨q, o, none⟩) H1.out.1.lq u).cell 0, (H1.out.1.lk.far (p := ⟨q, o, none⟩) H1.out.1.lq u).cell 1⟩; have d0 := H1.out.1.sp.cell H.out.2.1 0 _ rfl; simp only [Nat.add_zero] at d0; have d1 := H1.out.1.sp.cell H.out.2.1 1 _ rfl; have d2 := H1.out.1.sp.cell H.out.2.1 2 _ rfl; have f1 := H1.out.1.sp.free (n * 4 + 1); have f2 := H1.out.1.sp.free (n * 4 + 2)))
  all_goals clear h1 t1
  cases hz : (v != 0)
  · have HZ : Hid (¬ v ≠ 0) := Lib.hid (by simpa using hz)
    go_wp2
    go_ret
    have e : outR26 r.ar t x p = (loadA r.ar (nxA t x), { p with a := v, pc := 12 }) := by unfold outR26; rw [if_neg (by rw [H.out.2.2]; decide), if_neg (by rw [H.out.2.2]; decide), if_neg (by rw [H.out.2.2]; decide), if_neg (by rw [H.out.2.2]; decide), ← HV.out, if_neg HZ.out, if_pos H.out.2.2]
    rw [e]
    have g1 := H1.out.1.sp.put H.out.2.1 (j := 1) (u := .int .i64 v) (p' := { p with a := v }) (by decide) rfl
    have ht : Turns [q] w1 (w1.setCell ⟨q, n * 4 + 1, none⟩ (.int .i64 v)) := (Turns.refl _ _).setCell (.inl (by simp)) _
    refine ⟨rfl, ?_, (H1.out.2.mono (by simp)).trans (ht.mono (by simp))⟩
    have := H1.out.1.spot g1 (by simp) ht
    simpa using this
  · have HZ : Hid (v ≠ 0) := Lib.hid (by simpa using hz)
    go_wp2
    go_ret
    have e : outR26 r.ar t x p = (loadA r.ar (nxA t x), { p with a := v, pc := 14 }) := by unfold outR26; rw [if_neg (by rw [H.out.2.2]; decide), if_neg (by rw [H.out.2.2]; decide), if_neg (by rw [H.out.2.2]; decide), if_neg (by rw [H.out.2.2]; decide), ← HV.out, if_pos HZ.out]
    rw [e]
    have g1 := H1.out.1.sp.put H.out.2.1 (j := 1) (u := .int .i64 v) (p' := { p with a := v }) (by decide) rfl
    have ht : Turns [q] w1 (w1.setCell ⟨q, n * 4 + 1, none⟩ (.int .i64 v)) := (Turns.refl _ _).setCell (.inl (by simp)) _
    refine ⟨rfl, ?_, (H1.out.2.mono (by simp)).trans (ht.mono (by simp))⟩
    have := H1.out.1.spot g1 (by simp) ht
    simpa using this
set_option maxRecDepth 100000 in
set_option maxHeartbeats 1000000 in
theorem out13 {w : World} {l a g q : Nat} {t : Int} {r : Rg} (h : RgIs w l a g q t r) (n : Nat) (p : Sp) (hp : r.S[n]? = some p) (x : Int) (ho : r.ar.ops + 1 ≤ 1000000000000) (hpc : p.pc = 13) :
    Calls Tryz.prog 111 #[.pointer (some ⟨l, 0, none⟩), .pointer (some ⟨q, n * 4, none⟩), .int .i64 x] w (StepOk w l a g q t n r p (outR26 r.ar t x p)) := by
  have n12 : (p.pc == 12) = false := by rw [beq_eq_false_iff_ne]; omega
  have n14 : (p.pc == 14) = false := by rw [beq_eq_false_iff_ne]; omega
  have n15 : (p.pc == 15) = false := by rw [beq_eq_false_iff_ne]; omega
  have n16 : (p.pc == 16) = false := by rw [beq_eq_false_iff_ne]; omega
  have n11 : (p.pc == 11) = false := by rw [beq_eq_false_iff_ne]; omega
  have c0 : w.cell? ⟨l, 0, none⟩ = some (.pointer (some ⟨a, 0, none⟩)) := h.lk.cell 0
  have c1 : w.cell? ⟨l, 1, none⟩ = some (.int .i64 t) := h.lk.cell 1
  have a0 := h.sp.cell hp 0 _ rfl
  have a1 := h.sp.cell hp 1 _ rfl
  have a2 := h.sp.cell hp 2 _ rfl
  have a3 := h.sp.cell hp 3 _ rfl
  simp only [Nat.add_zero] at a0
  have H := Lib.hid (And.intro h (And.intro hp hpc))
  clear h hp hpc
  go_enter Tryz.func111, Tryz.ntmps111
  go_wp2
  obtain ⟨v, hv⟩ : ∃ v, v = ldW r.ar.W (nxA t x) := ⟨_, rfl⟩
  have HV := Lib.hid hv
  clear hv
  have HD := Lib.hid H.out.1.drew
  go_region_held3 (fun W => W.cell? ⟨l, 0, none⟩ = some (.pointer (some ⟨a, 0, none⟩)) ∧ W.cell? ⟨l, 1, none⟩ = some (.int .i64 t))
    (first | exact ⟨c0, c1⟩ | exact ⟨k0, k1⟩ | exact hk.out _ _)
    (first
      | (go_at_call 134; go_loud (refine (next_any HD.out x).mono ?_); rintro en w1 ⟨rfl, rfl⟩)
      | (go_at_call 94; go_loud (refine (load_call HD.out.ar (nxA t x) v HV.out ho).mono ?_); rintro en w1 ⟨rfl, h1, t1⟩; have H1 := Lib.hid (And.intro (HD.out.ar_ h1 t1) (Turns.trans ((Turns.refl _ _).drew) t1)); have k0 : w1.cell? ⟨l, 0, none⟩ = some (.pointer (some ⟨a, 0, none⟩)) := H1.out.1.lk.cell 0; have k1 : w1.cell? ⟨l, 1, none⟩ = some (.int .i64 t) := H1.out.1.lk.cell 1; have hk : Hid (∀ (o : Nat) (u : Value), (w1.setCell ⟨q, o, none⟩ u).cell? ⟨l, 0, none⟩ = some (.pointer (some ⟨a, 0, none⟩)) ∧ (w1.setCell ⟨q, o, none⟩ u).cell? ⟨l, 1, none⟩ = some (.int .i64 t)) := Lib.hid fun o u => ⟨(H1.out.1.lk.far (p := ⟨q, o, none⟩) H1.out.1.lq u).cell 0, (H1.out.1.lk.far (p := ⟨q, o, none⟩) H1.out.1.lq u).cell 1⟩; have d0 := H1.out.1.sp.cell H.out.2.1 0 _ rfl; simp only [Nat.add_zero] at d0; have d1 := H1.out.1.sp.cell H.out.2.1 1 _ rfl; have d2 := H1.out.1.sp.cell H.out.2.1 2 _ rfl; have f1 := H1.out.1.sp.free (n * 4 + 1); have f2 := H1.out.1.sp.free (n * 4 + 2)))
  all_goals clear h1 t1
  cases hz : (v != 0)
  · have HZ : Hid (¬ v ≠ 0) := Lib.hid (by simpa using hz)
    go_wp2
    go_ret
    have e : outR26 r.ar t x p = (loadA r.ar (nxA t x), { p with a := v, pc := 13 }) := by unfold outR26; rw [if_neg (by rw [H.out.2.2]; decide), if_neg (by rw [H.out.2.2]; decide), if_neg (by rw [H.out.2.2]; decide), if_neg (by rw [H.out.2.2]; decide), ← HV.out, if_neg HZ.out, if_neg (by rw [H.out.2.2]; decide)]
    rw [e]
    have g1 := H1.out.1.sp.put H.out.2.1 (j := 1) (u := .int .i64 v) (p' := { p with a := v }) (by decide) rfl
    have ht : Turns [q] w1 (w1.setCell ⟨q, n * 4 + 1, none⟩ (.int .i64 v)) := (Turns.refl _ _).setCell (.inl (by simp)) _
    refine ⟨rfl, ?_, (H1.out.2.mono (by simp)).trans (ht.mono (by simp))⟩
    have := H1.out.1.spot g1 (by simp) ht
    simpa using this
  · have HZ : Hid (v ≠ 0) := Lib.hid (by simpa using hz)
    go_wp2
    go_ret
    have e : outR26 r.ar t x p = (loadA r.ar (nxA t x), { p with a := v, pc := 14 }) := by unfold outR26; rw [if_neg (by rw [H.out.2.2]; decide), if_neg (by rw [H.out.2.2]; decide), if_neg (by rw [H.out.2.2]; decide), if_neg (by rw [H.out.2.2]; decide), ← HV.out, if_pos HZ.out]
    rw [e]
    have g1 := H1.out.1.sp.put H.out.2.1 (j := 1) (u := .int .i64 v) (p' := { p with a := v }) (by decide) rfl
    have ht : Turns [q] w1 (w1.setCell ⟨q, n * 4 + 1, none⟩ (.int .i64 v)) := (Turns.refl _ _).setCell (.inl (by simp)) _
    refine ⟨rfl, ?_, (H1.out.2.mono (by simp)).trans (ht.mono (by simp))⟩
    have := H1.out.1.spot g1 (by simp) ht
    simpa using this
end Go.Proofs.YtkdaiomjbkpedaaGreat
end
