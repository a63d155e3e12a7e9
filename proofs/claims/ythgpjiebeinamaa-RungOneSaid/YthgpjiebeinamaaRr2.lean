/- Layer 26: the document's rung: Ask, Leave, Pass (written by wip/gen_rr2.py). -/
import Derived.Test.YthgpjiebeinamaaRr1
namespace Go.Proofs.Ythgpjiebeinamaa
open Go.RowKit
set_option maxHeartbeats 1000000 in
theorem rask_any {w : World} {y b gw cap q cq : Nat} {t : Int} {r : Rg} (h : RrIs w y b gw cap q cq t r) (i : Int) :
    Calls Try.prog 41 #[.pointer (some ⟨y, 0, none⟩), .int .i64 i] w (RrBeg w y b gw cap q cq t (beginRg r i 0 1)) := by
  have H := Lib.hid h
  have hlen := h.len
  have c2 : w.cell? ⟨y, 2, none⟩ = some (.slice (some ⟨q, 0, none⟩) r.S.length cq) := h.lk.cell 2
  by_cases hi : okI r.S i
  · have hp := getS_in hi
    obtain ⟨p, hpp⟩ : ∃ p, p = getS r.S i := ⟨_, rfl⟩
    rw [← hpp] at hp
    obtain ⟨h0, h1⟩ := id hi
    obtain ⟨n, rfl⟩ := Int.eq_ofNat_of_zero_le h0
    simp only [Int.toNat_natCast] at hp
    have a0 := h.cell hp 0 _ rfl
    have a3 := h.cell hp 3 _ rfl
    simp only [Nat.add_zero] at a0
    have f0 := h.free (n * 4)
    have f3 := h.free (n * 4 + 3)
    have hs1 := h.lk.lt
    have hyq := h.yq
    have t2 : ¬ (n : Int) < 0 := by omega
    have t3 : ¬ ((r.S.length : Nat) : Int) ≤ (n : Int) := by omega
    have t4 : n < r.S.length := by omega
    have HP := Lib.hid (And.intro hi (And.intro hpp hp))
    clear h hp hpp h0 h1 hi
    cases hc : (p.pc != 0)
    · have hb : Hid (beginRg r n 0 1 = (⟨r.ar, r.S.set n { p with pc := 1 }⟩, true)) := Lib.hid (by
        unfold beginRg
        have e : p.pc = 0 := by simpa using hc
        rw [← HP.out.2.1, if_pos ⟨HP.out.1, e⟩]; simp)
      go_enter Try.func41, Try.ntmps41
      go_wp2
      go_ret
      rw [hb.out]
      have g0 := H.out.put (i := n) (p := p) (HP.out.2.2) (j := 0) (u := .int .i64 1) (p' := { p with pc := 1 }) (by decide) rfl
      have ht : Turns [q] w (w.setCell ⟨q, n * 4, none⟩ (.int .i64 1)) := (Turns.refl _ _).setCell (.inl (by simp)) _
      exact ⟨rfl, by simpa using g0, ht⟩
    · have hb : Hid (beginRg r n 0 1 = (r, false)) := Lib.hid (by
        unfold beginRg
        have e : ¬ p.pc = 0 := by simpa using hc
        rw [← HP.out.2.1, if_neg (fun h => e h.2)])
      go_enter Try.func41, Try.ntmps41
      go_wp2
      go_ret
      rw [hb.out]
      exact ⟨rfl, H.out, Turns.refl _ _⟩
  · have hb : Hid (beginRg r i 0 1 = (r, false)) := Lib.hid (by
      unfold beginRg
      rw [if_neg (fun h => hi h.1)])
    unfold okI at hi
    clear h
    by_cases h0 : i < 0
    · go_enter Try.func41, Try.ntmps41
      go_wp2
      go_ret
      rw [hb.out]
      exact ⟨rfl, H.out, Turns.refl _ _⟩
    · have t3 : ((r.S.length : Nat) : Int) ≤ i := by omega
      clear hi
      go_enter Try.func41, Try.ntmps41
      go_wp2
      go_ret
      rw [hb.out]
      exact ⟨rfl, H.out, Turns.refl _ _⟩
set_option maxHeartbeats 1000000 in
theorem rleave_any {w : World} {y b gw cap q cq : Nat} {t : Int} {r : Rg} (h : RrIs w y b gw cap q cq t r) (i : Int) (v : Int) :
    Calls Try.prog 42 #[.pointer (some ⟨y, 0, none⟩), .int .i64 i, .int .i64 v] w (RrBeg w y b gw cap q cq t (withRg r i 11 v)) := by
  have H := Lib.hid h
  have hlen := h.len
  have c2 : w.cell? ⟨y, 2, none⟩ = some (.slice (some ⟨q, 0, none⟩) r.S.length cq) := h.lk.cell 2
  by_cases hi : okI r.S i
  · have hp := getS_in hi
    obtain ⟨p, hpp⟩ : ∃ p, p = getS r.S i := ⟨_, rfl⟩
    rw [← hpp] at hp
    obtain ⟨h0, h1⟩ := id hi
    obtain ⟨n, rfl⟩ := Int.eq_ofNat_of_zero_le h0
    simp only [Int.toNat_natCast] at hp
    have a0 := h.cell hp 0 _ rfl
    have a3 := h.cell hp 3 _ rfl
    simp only [Nat.add_zero] at a0
    have f0 := h.free (n * 4)
    have f3 := h.free (n * 4 + 3)
    have hs1 := h.lk.lt
    have hyq := h.yq
    have t2 : ¬ (n : Int) < 0 := by omega
    have t3 : ¬ ((r.S.length : Nat) : Int) ≤ (n : Int) := by omega
    have t4 : n < r.S.length := by omega
    have HP := Lib.hid (And.intro hi (And.intro hpp hp))
    clear h hp hpp h0 h1 hi
    cases hc : (p.pc != 10)
    · have hb : Hid (withRg r n 11 v = (⟨r.ar, r.S.set n { p with pc := 11, c := v }⟩, true)) := Lib.hid (by
        unfold withRg
        have e : p.pc = 10 := by simpa using hc
        rw [← HP.out.2.1, if_pos ⟨HP.out.1, e⟩]; simp)
      go_enter Try.func42, Try.ntmps42
      go_wp2
      go_ret
      rw [hb.out]
      have g0 := H.out.put (i := n) (p := p) (HP.out.2.2) (j := 3) (u := .int .i64 v) (p' := { p with c := v }) (by decide) rfl
      have g1 := g0.put (i := n) (p := { p with c := v }) (by simp [t4]) (j := 0) (u := .int .i64 11) (p' := { p with c := v, pc := 11 }) (by decide) rfl
      have ht : Turns [q] w ((w.setCell ⟨q, n * 4 + 3, none⟩ (.int .i64 v)).setCell ⟨q, n * 4, none⟩ (.int .i64 11)) := ((Turns.refl _ _).setCell (.inl (by simp)) _).setCell (.inl (by simp)) _
      exact ⟨rfl, by simpa using g1, ht⟩
    · have hb : Hid (withRg r n 11 v = (r, false)) := Lib.hid (by
        unfold withRg
        have e : ¬ p.pc = 10 := by simpa using hc
        rw [← HP.out.2.1, if_neg (fun h => e h.2)])
      go_enter Try.func42, Try.ntmps42
      go_wp2
      go_ret
      rw [hb.out]
      exact ⟨rfl, H.out, Turns.refl _ _⟩
  · have hb : Hid (withRg r i 11 v = (r, false)) := Lib.hid (by
      unfold withRg
      rw [if_neg (fun h => hi h.1)])
    unfold okI at hi
    clear h
    by_cases h0 : i < 0
    · go_enter Try.func42, Try.ntmps42
      go_wp2
      go_ret
      rw [hb.out]
      exact ⟨rfl, H.out, Turns.refl _ _⟩
    · have t3 : ((r.S.length : Nat) : Int) ≤ i := by omega
      clear hi
      go_enter Try.func42, Try.ntmps42
      go_wp2
      go_ret
      rw [hb.out]
      exact ⟨rfl, H.out, Turns.refl _ _⟩
theorem withRg_two (r : Rg) (i v : Int) : withRg r i 15 v = if (withRg r i 11 v).2 then (⟨r.ar, (withRg r i 11 v).1.S.set i.toNat { getS r.S i with pc := 15, c := v }⟩, true) else (r, false) := by
  unfold withRg
  split
  · simp
  · simp
set_option maxHeartbeats 1000000 in
theorem rpass_any {w : World} {y b gw cap q cq : Nat} {t : Int} {r : Rg} (h : RrIs w y b gw cap q cq t r) (i v : Int) :
    Calls Try.prog 43 #[.pointer (some ⟨y, 0, none⟩), .int .i64 i, .int .i64 v] w (RrBeg w y b gw cap q cq t (withRg r i 15 v)) := by
  have H := Lib.hid h
  clear h
  go_enter Try.func43, Try.ntmps43
  go_wp2_with fail
  refine (rleave_any H.out i v).mono ?_
  rintro en w1 ⟨rfl, h1, t1⟩
  have hlen := h1.len
  have c2 : w1.cell? ⟨y, 2, none⟩ = some (.slice (some ⟨q, 0, none⟩) (withRg r i 11 v).1.S.length cq) := h1.lk.cell 2
  have hw2 := withRg_two r i v
  by_cases hc : okI r.S i ∧ (getS r.S i).pc = 10
  · have e : withRg r i 11 v = (⟨r.ar, r.S.set i.toNat { getS r.S i with pc := 11, c := v }⟩, true) := by unfold withRg; rw [if_pos hc]
    rw [e] at h1 hw2 c2 hlen ⊢
    obtain ⟨h0, h9⟩ := hc.1
    obtain ⟨n, rfl⟩ := Int.eq_ofNat_of_zero_le h0
    have hn : n < r.S.length := by omega
    have hg : (r.S.set (n : Int).toNat { getS r.S n with pc := 11, c := v })[n]? = some { getS r.S n with pc := 11, c := v } := by simp [hn]
    have f0 := h1.free (n * 4)
    have d0 := h1.cell hg 0 _ rfl
    simp only [Nat.add_zero] at d0
    have hl := h1.lt
    simp only [List.length_set, Int.toNat_natCast] at c2
    have h2 := h1.put hg (j := 0) (u := .int .i64 15) (p' := { getS r.S n with pc := 15, c := v }) (by decide) rfl
    have ht : Turns [q] w1 (w1.setCell ⟨q, n * 4 + 0, none⟩ (.int .i64 15)) := (Turns.refl _ _).setCell (.inl (by simp)) _
    have HW := Lib.hid (And.intro hw2 (And.intro h2 (t1.trans ht)))
    have t5 : (n : Int) < r.S.length := by omega
    simp only [List.length_set] at hlen
    clear h1 t1 hw2 e hg hc h2 ht h0 h9
    go_wp2
    go_ret
    rw [HW.out.1]
    exact ⟨rfl, by simpa using HW.out.2.1, by simpa using HW.out.2.2⟩
  · have e : withRg r i 11 v = (r, false) := by unfold withRg; rw [if_neg hc]
    rw [e] at h1 hw2 ⊢
    have HW := Lib.hid (And.intro hw2 (And.intro h1 t1))
    clear h1 t1 hw2 e hc c2 hlen
    go_wp2
    go_ret
    rw [HW.out.1]
    exact ⟨rfl, HW.out.2.1, HW.out.2.2⟩
end Go.Proofs.Ythgpjiebeinamaa
