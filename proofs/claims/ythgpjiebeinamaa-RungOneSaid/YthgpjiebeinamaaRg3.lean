/- Layers 1 and 26: Step; a new arena, taking words, a new rung. -/
import Derived.Test.YthgpjiebeinamaaRg2
namespace Go.Proofs.Ythgpjiebeinamaa
open Go.RowKit

def pcOk (p : Sp) : Prop := (0 ≤ p.pc ∧ p.pc ≤ 6) ∨ (10 ≤ p.pc ∧ p.pc ≤ 16)
theorem in_any {w : World} {l a g q : Nat} {t : Int} {r : Rg} (h : RgIs w l a g q t r) (n : Nat) (p : Sp) (hp : r.S[n]? = some p) (x : Int) (ho : r.ar.ops + 1 ≤ 1000000000000) (h1 : 1 ≤ p.pc) (h6 : p.pc ≤ 6) :
    Calls Try.prog 63 #[.pointer (some ⟨l, 0, none⟩), .pointer (some ⟨q, n * 4, none⟩), .int .i64 x] w (StepOk w l a g q t n r p (inR26 r.ar t x p)) := by
  rcases (show p.pc = 1 ∨ p.pc = 2 ∨ p.pc = 3 ∨ p.pc = 4 ∨ p.pc = 5 ∨ p.pc = 6 by omega) with e | e | e | e | e | e
  · exact in1 h n p hp x ho e
  · exact in2 h n p hp x ho e
  · exact in3 h n p hp x ho e
  · exact in4 h n p hp x ho e
  · exact in5 h n p hp x ho e
  · exact in6 h n p hp x ho e
theorem out_any {w : World} {l a g q : Nat} {t : Int} {r : Rg} (h : RgIs w l a g q t r) (n : Nat) (p : Sp) (hp : r.S[n]? = some p) (x : Int) (ho : r.ar.ops + 1 ≤ 1000000000000) (h1 : 11 ≤ p.pc) (h6 : p.pc ≤ 16) :
    Calls Try.prog 64 #[.pointer (some ⟨l, 0, none⟩), .pointer (some ⟨q, n * 4, none⟩), .int .i64 x] w (StepOk w l a g q t n r p (outR26 r.ar t x p)) := by
  rcases (show p.pc = 11 ∨ p.pc = 12 ∨ p.pc = 13 ∨ p.pc = 14 ∨ p.pc = 15 ∨ p.pc = 16 by omega) with e | e | e | e | e | e
  · exact out11 h n p hp x ho e
  · exact out12 h n p hp x ho e
  · exact out13 h n p hp x ho e
  · exact out14 h n p hp x ho e
  · exact out15 h n p hp x ho e
  · exact out16 h n p hp x ho e
theorem field_pc (a b c d : Int) (w : World) : (Instr.field 33 (.agg #[.int .i64 a, .int .i64 b, .int .i64 c, .int .i64 d]) 0).run Try.prog w = .ok (.int .i64 a) w := by kernel_rfl
def RgOk (w : World) (l a g q : Nat) (t : Int) (x : Rg × Bool) (e : Ending) (w' : World) : Prop := e = .returned (.bool x.2) ∧ RgIs w' l a g q t x.1 ∧ Turns [a, g, q] w w'
theorem BegOk.rg {w : World} {l a g q : Nat} {t : Int} {x : Rg × Bool} {e : Ending} {w' : World} (h : BegOk w l a g q t x e w') : RgOk w l a g q t x e w' := ⟨h.1, h.2.1, h.2.2.mono (by simp)⟩
set_option maxRecDepth 100000 in
set_option maxHeartbeats 1000000 in
theorem step_any {w : World} {l a g q : Nat} {t : Int} {r : Rg} (h : RgIs w l a g q t r) (i : Int) (ho : r.ar.ops + 1 ≤ 1000000000000) (hpc : ∀ p ∈ r.S, pcOk p) :
    Calls Try.prog 34 #[.pointer (some ⟨l, 0, none⟩), .int .i64 i] w (RgOk w l a g q t (stepRg r t i)) := by
  have hfield := field_pc
  have H := Lib.hid h
  have hlen := h.len
  obtain ⟨p, hp⟩ : ∃ p, p = getS r.S i := ⟨_, rfl⟩
  have HP := Lib.hid hp
  by_cases hc : okI r.S i ∧ p.pc ≠ 0 ∧ p.pc ≠ 10
  · obtain ⟨hi, hz, ht⟩ := hc
    have hget := getS_in hi
    rw [← hp] at hget
    have hok := hpc p (List.mem_of_getElem? hget)
    obtain ⟨h0, h9⟩ := id hi
    obtain ⟨n, rfl⟩ := Int.eq_ofNat_of_zero_le h0
    simp only [Int.toNat_natCast] at hget
    have t0 : (p.pc == 0) = false := by simpa using hz
    have t10 : (p.pc == 10) = false := by simpa using ht
    have hn : n < r.S.length := by omega
    have hn2 : (n : Int) < r.S.length := by omega
    have hx : (n : Int) + 1 ≤ 33 := by omega
    have HS : Hid (stepRg r t n = (⟨(stepP r.ar t (n + 1) p).1, r.S.set n (stepP r.ar t (n + 1) p).2⟩, decide ((stepP r.ar t (n + 1) p).2.pc = 0 ∨ (stepP r.ar t (n + 1) p).2.pc = 10))) := Lib.hid (by
      unfold stepRg
      rw [← HP.out, if_pos ⟨hi, hz, ht⟩]; rfl)
    have HG := Lib.hid (And.intro hget hi)
    have HB : Hid ((1 ≤ p.pc ∧ p.pc ≤ 6) ∨ (11 ≤ p.pc ∧ p.pc ≤ 16)) := Lib.hid (by unfold pcOk at hok; omega)
    clear h hp hz ht hget h0 h9 hi hpc hok
    go_enter Try.func34, Try.ntmps34
    go_wp2_with fail
    refine (spot_any H.out n).mono ?_
    rintro en w1 ⟨rfl, b1⟩
    rw [← HP.out]
    unfold spotV
    have h1 := H.out.below b1
    have H1 := Lib.hid (And.intro h1 b1)
    have c2 : w1.cell? ⟨l, 2, none⟩ = some (.slice (some ⟨q, 0, none⟩) r.S.length r.S.length) := h1.lk.cell 2
    clear h1 b1
    by_cases h10 : p.pc < 10
    all_goals
      go_wp2_with fail
      first
        | refine (in_any H1.out.1 n p HG.out.1 _ ho (by have := HB.out; omega) (by have := HB.out; omega)).mono ?_
        | refine (out_any H1.out.1 n p HG.out.1 _ ho (by have := HB.out; omega) (by have := HB.out; omega)).mono ?_
      rintro en w2 ⟨rfl, h2, t2⟩
      obtain ⟨y, hy⟩ : ∃ y, y = stepP r.ar t (n + 1) p := ⟨_, rfl⟩
      have hyy := hy
      unfold stepP at hyy
      first
        | rw [if_pos h10] at hyy
        | rw [if_neg (by omega)] at hyy
      rw [← hyy] at h2 ⊢
      rw [← hy] at HS
      clear hy hyy
      have hg2 : (r.S.set n { y.2 with pc := p.pc })[n]? = some { y.2 with pc := p.pc } := by simp [hn]
      have d0 := h2.sp.cell hg2 0 _ rfl
      simp only [Nat.add_zero] at d0
      have f0 := h2.sp.free (n * 4)
      have hq := h2.sp.lt
      have h3 := h2.sp.put hg2 (j := 0) (u := .int .i64 y.2.pc) (p' := y.2) (by decide) rfl
      simp only [Nat.add_zero, List.set_set] at h3
      have ht3 : Turns [q] w2 (w2.setCell ⟨q, n * 4, none⟩ (.int .i64 y.2.pc)) := (Turns.refl _ _).setCell (.inl (by simp)) _
      have h4 := h2.spot h3 (by simp) ht3
      have H2 := Lib.hid (And.intro h4 (((Turns.of_below H1.out.2).trans t2).trans (ht3.mono (by simp))))
      clear h2 t2 hg2 h3 ht3 h4
      cases z0 : (y.2.pc == 0)
      · cases z1 : (y.2.pc == 10)
        · have HD : Hid (decide (y.2.pc = 0 ∨ y.2.pc = 10) = false) := Lib.hid (by simp at z0 z1; simp [z0, z1])
          go_wp2
          go_ret
          rw [HS.out]
          exact ⟨ret_bool HD.out.symm, H2.out.1, H2.out.2⟩
        · have HD : Hid (decide (y.2.pc = 0 ∨ y.2.pc = 10) = true) := Lib.hid (by simp at z1; simp [z1])
          go_wp2
          go_ret
          rw [HS.out]
          exact ⟨ret_bool HD.out.symm, H2.out.1, H2.out.2⟩
      · have HD : Hid (decide (y.2.pc = 0 ∨ y.2.pc = 10) = true) := Lib.hid (by simp at z0; simp [z0])
        go_wp2
        go_ret
        rw [HS.out]
        exact ⟨ret_bool HD.out.symm, H2.out.1, H2.out.2⟩
  · have HS : Hid (stepRg r t i = (r, false)) := Lib.hid (by unfold stepRg; rw [← hp, if_neg hc])
    have hz : p.pc = 0 ∨ p.pc = 10 := by
      by_cases hi : okI r.S i
      · by_cases h0 : p.pc = 0
        · exact .inl h0
        · by_cases h10 : p.pc = 10
          · exact .inr h10
          · exact absurd ⟨hi, h0, h10⟩ hc
      · rw [hp, getS_out hi]; exact .inl rfl
    clear h hp hc hpc
    go_enter Try.func34, Try.ntmps34
    go_wp2_with fail
    refine (spot_any H.out i).mono ?_
    rintro en w1 ⟨rfl, b1⟩
    rw [← HP.out]
    unfold spotV
    have H1 := Lib.hid (And.intro (H.out.below b1) b1)
    clear b1
    rcases hz with hz | hz
    · have t0 : (p.pc == 0) = true := by rw [hz]; rfl
      clear hz
      go_wp2
      go_ret
      rw [HS.out]
      exact ⟨rfl, H1.out.1, Turns.of_below H1.out.2⟩
    · have t0 : (p.pc == 0) = false := by rw [hz]; rfl
      have t1 : (p.pc == 10) = true := by rw [hz]; rfl
      clear hz
      go_wp2
      go_ret
      rw [HS.out]
      exact ⟨rfl, H1.out.1, Turns.of_below H1.out.2⟩
end Go.Proofs.Ythgpjiebeinamaa
