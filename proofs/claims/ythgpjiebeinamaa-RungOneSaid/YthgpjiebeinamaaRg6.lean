/- Layer 26: awake (written by wip/gen_rg6.py). -/
import Derived.Test.YthgpjiebeinamaaRg5
namespace Go.Proofs.Ythgpjiebeinamaa
open Go.RowKit

@[go_sem] theorem guardSpot : Try.prog.eqGuardType Try.prog.depth 33 = false := by kernel_rfl
theorem field_a (a b c d : Int) (w : World) : (Instr.field 33 (.agg #[.int .i64 a, .int .i64 b, .int .i64 c, .int .i64 d]) 1).run Try.prog w = .ok (.int .i64 b) w := by kernel_rfl
theorem field_b (a b c d : Int) (w : World) : (Instr.field 33 (.agg #[.int .i64 a, .int .i64 b, .int .i64 c, .int .i64 d]) 2).run Try.prog w = .ok (.int .i64 c) w := by kernel_rfl
theorem RgIs.ar1 {w w' : World} {l a g q : Nat} {t : Int} {r : Rg} (h : RgIs w l a g q t r) {s' : Ar} (hs : ArIs w' a g s') (k : Turns [a] w w') : RgIs w' l a g q t ⟨s', r.S⟩ :=
  ⟨hs, k.blk h.lk (by simp [h.la]), h.sp.turns k (by simp [h.qa]), h.la, h.lg, h.lq, h.qa, h.qg, h.len⟩
theorem newSt_of {w0 w : World} {a g room n : Nat} (hA : ArIs w a g ⟨[], room, 0, 0, 0, false⟩) (hb : Below w0.heap.size w0 w) (ha : w0.heap.size ≤ a) (hg : w0.heap.size ≤ g) (hn : 1 ≤ n) (hn2 : n ≤ 32) (hr : 2 * n + 1 ≤ room) :
    Calls Try.prog 10 #[.pointer (some ⟨a, 0, none⟩), .int .i64 n] w fun e w' => ∃ l q, e = .returned (.tuple #[.pointer (some ⟨l, 0, none⟩), .int .i64 0]) ∧ St w0 w' l a g q 1 (newR room n) 0 := by
  refine (newRg_any hA n).mono fun e w' h => ?_
  have e0 : newRgOk ⟨[], room, 0, 0, 0, false⟩ n = 0 := by
    unfold newRgOk
    rw [if_neg (by omega), if_neg (by simp; omega)]
  unfold NewRg at h
  rw [e0, if_pos rfl] at h
  obtain ⟨l, q, he, hR, h1, h2, h3⟩ := h
  have hsz := hb.size
  refine ⟨l, q, he, ⟨?_, hb.trans (h3.below (by simp [ha]) hsz), by omega, ha, hg, by omega, ?_, ?_⟩⟩
  · have e1 : newR room n = ⟨{ (⟨[], room, 0, 0, 0, false⟩ : Ar) with W := ([] : List Int) ++ List.replicate (2 * (n : Int) + 1).toNat 0 }, List.replicate (n : Int).toNat Sp.zero⟩ := by
      unfold newR
      rw [List.nil_append, Int.toNat_natCast, show (2 * (n : Int) + 1).toNat = 2 * n + 1 by omega]
    rw [e1]
    simpa using hR
  · intro p hp
    have : p = Sp.zero := by unfold newR at hp; exact (List.mem_replicate.1 hp).2
    subst this
    exact .inl ⟨by decide, by decide⟩
  · simp [newR]

def awS0 : Rg := newR 9 3
def awS1 : Rg := (beginRg awS0 0 0 1).1
theorem awE1 : beginRg awS0 0 0 1 = (awS1, true) := by kernel_rfl
def awS2 : Rg := (stepsRg 4 awS1 1 0).1
theorem awE2 : stepsRg 4 awS1 1 0 = (awS2, true) := by kernel_rfl
def awS3 : Rg := (withRg awS2 0 15 2).1
theorem awE3 : withRg awS2 0 15 2 = (awS3, true) := by kernel_rfl
def awS4 : Rg := (stepRg awS3 1 0).1
theorem awE4 : stepRg awS3 1 0 = (awS4, true) := by kernel_rfl
def awS5 : Rg := (beginRg awS4 1 0 1).1
theorem awE5 : beginRg awS4 1 0 1 = (awS5, true) := by kernel_rfl
def awS6 : Rg := (stepsRg 9 awS5 1 1).1
theorem awE6 : stepsRg 9 awS5 1 1 = (awS6, false) := by kernel_rfl
def awS7 : Rg := (beginRg awS6 2 0 1).1
theorem awE7 : beginRg awS6 2 0 1 = (awS7, true) := by kernel_rfl
def awS8 : Rg := (stepsRg 9 awS7 1 2).1
theorem awE8 : stepsRg 9 awS7 1 2 = (awS8, false) := by kernel_rfl
def awS9 : Rg := (withRg awS8 0 15 2).1
theorem awE9 : withRg awS8 0 15 2 = (awS9, true) := by kernel_rfl
def awS10 : Rg := (stepsRg 2 awS9 1 0).1
theorem awE10 : stepsRg 2 awS9 1 0 = (awS10, true) := by kernel_rfl
def awS11 : Rg := (stepsRg 1 awS10 1 1).1
theorem awE11 : stepsRg 1 awS10 1 1 = (awS11, true) := by kernel_rfl
def awS12 : Rg := (withRg awS11 1 11 (-1)).1
theorem awE12 : withRg awS11 1 11 (-1) = (awS12, true) := by kernel_rfl
def awS13 : Rg := (stepsRg 2 awS12 1 1).1
theorem awE13 : stepsRg 2 awS12 1 1 = (awS13, true) := by kernel_rfl
def awS14 : Rg := (stepsRg 2 awS13 1 2).1
theorem awE14 : stepsRg 2 awS13 1 2 = (awS14, true) := by kernel_rfl
set_option maxRecDepth 100000 in
set_option maxHeartbeats 4000000 in
theorem awake26 (w : World) : Calls Try.prog 8 #[] w fun e w' => e = .returned (.bool true) ∧ Below w.heap.size w w' := by
  have hfa := field_a
  have hfb := field_b
  have hfp := field_pc
  go_enter Try.func8, Try.ntmps8
  go_wp2_with fail
  refine (newA_any _ 9).mono ?_
  rintro en wa ⟨a, g, rfl, hA, ha, hg, hb⟩
  have HA := Lib.hid (And.intro hA (And.intro ha (And.intro hg hb)))
  clear hA ha hg hb
  go_wp2_with fail
  refine (newSt_of (n := 3) HA.out.1 HA.out.2.2.2 HA.out.2.1 HA.out.2.2.1 (by omega) (by omega) (by decide)).mono ?_
  rintro en w0 ⟨l, q, rfl, h⟩
  have H0 : Hid (St w w0 l a g q 1 awS0 0) := Lib.hid h
  clear h
  go_wp2_with fail
  refine (ask_call H0.out 0 true awE1).mono ?_
  rintro en w1 ⟨rfl, h⟩
  have H1 := Lib.hid h
  clear h
  go_wp2_with fail
  refine (steps_call H1.out 0 4 true (by omega) (by omega) awE2).mono ?_
  rintro en w2 ⟨rfl, h⟩
  have H2 := Lib.hid h
  clear h
  go_wp2_with fail
  refine (spot_call H2.out 0 ⟨10, 1, 1, 0⟩ (by kernel_rfl)).mono ?_
  rintro en w3 ⟨rfl, h⟩
  have H3 := Lib.hid h
  clear h
  go_wp2_with fail
  refine (pass_call H3.out 0 (2) true awE3).mono ?_
  rintro en w4 ⟨rfl, h⟩
  have H4 := Lib.hid h
  clear h
  go_wp2_with fail
  refine (step_call H4.out 0 true (by omega) awE4).mono ?_
  rintro en w5 ⟨rfl, h⟩
  have H5 := Lib.hid h
  clear h
  go_wp2_with fail
  refine (spot_call H5.out 0 ⟨10, 1, 0, 2⟩ (by kernel_rfl)).mono ?_
  rintro en w6 ⟨rfl, h⟩
  have H6 := Lib.hid h
  clear h
  go_wp2_with fail
  refine (ask_call H6.out 1 true awE5).mono ?_
  rintro en w7 ⟨rfl, h⟩
  have H7 := Lib.hid h
  clear h
  go_wp2_with fail
  refine (steps_call H7.out 1 9 false (by omega) (by omega) awE6).mono ?_
  rintro en w8 ⟨rfl, h⟩
  have H8 := Lib.hid h
  clear h
  go_wp2_with fail
  refine (ask_call H8.out 2 true awE7).mono ?_
  rintro en w9 ⟨rfl, h⟩
  have H9 := Lib.hid h
  clear h
  go_wp2_with fail
  refine (steps_call H9.out 2 9 false (by omega) (by omega) awE8).mono ?_
  rintro en w10 ⟨rfl, h⟩
  have H10 := Lib.hid h
  clear h
  go_wp2_with fail
  refine (pass_call H10.out 0 (2) true awE9).mono ?_
  rintro en w11 ⟨rfl, h⟩
  have H11 := Lib.hid h
  clear h
  go_wp2_with fail
  refine (steps_call H11.out 0 2 true (by omega) (by omega) awE10).mono ?_
  rintro en w12 ⟨rfl, h⟩
  have H12 := Lib.hid h
  clear h
  go_wp2_with fail
  refine (spot_call H12.out 0 ⟨0, 1, 2, 2⟩ (by kernel_rfl)).mono ?_
  rintro en w13 ⟨rfl, h⟩
  have H13 := Lib.hid h
  clear h
  go_wp2_with fail
  refine (steps_call H13.out 1 1 true (by omega) (by omega) awE11).mono ?_
  rintro en w14 ⟨rfl, h⟩
  have H14 := Lib.hid h
  clear h
  go_wp2_with fail
  refine (spot_call H14.out 1 ⟨10, 2, 0, 0⟩ (by kernel_rfl)).mono ?_
  rintro en w15 ⟨rfl, h⟩
  have H15 := Lib.hid h
  clear h
  go_wp2_with fail
  refine (spot_call H15.out 1 ⟨10, 2, 0, 0⟩ (by kernel_rfl)).mono ?_
  rintro en w16 ⟨rfl, h⟩
  have H16 := Lib.hid h
  clear h
  go_wp2_with fail
  refine (leave_call H16.out 1 (-1) true awE12).mono ?_
  rintro en w17 ⟨rfl, h⟩
  have H17 := Lib.hid h
  clear h
  go_wp2_with fail
  refine (steps_call H17.out 1 2 true (by omega) (by omega) awE13).mono ?_
  rintro en w18 ⟨rfl, h⟩
  have H18 := Lib.hid h
  clear h
  go_wp2_with fail
  refine (steps_call H18.out 2 2 true (by omega) (by omega) awE14).mono ?_
  rintro en w19 ⟨rfl, h⟩
  have H19 := Lib.hid h
  clear h
  go_wp2_with fail
  refine (spot_call H19.out 2 ⟨10, 1, 1, 0⟩ (by kernel_rfl)).mono ?_
  rintro en w20 ⟨rfl, h⟩
  have H20 := Lib.hid h
  clear h
  go_wp2_with fail
  refine (spot_call H20.out 2 ⟨10, 1, 1, 0⟩ (by kernel_rfl)).mono ?_
  rintro en w21 ⟨rfl, h⟩
  have H21 := Lib.hid h
  clear h
  go_wp2_with fail
  refine (newRg_any H21.out.rg.ar 1).mono ?_
  rintro en wz h
  have e0 : newRgOk awS14.ar 1 = 3 := by kernel_rfl
  unfold NewRg at h
  rw [e0, if_neg (by decide)] at h
  obtain ⟨rfl, hA, ht⟩ := h
  have hr := H21.out.rg.ar1 hA ht
  have hb := H21.out.bel.trans (ht.below (by simp [H21.out.ha]) H21.out.bel.size)
  have HZ := Lib.hid (And.intro hr hb)
  clear hA ht hr hb
  go_wp2_with fail
  refine (slots_any HZ.out.1).mono ?_
  rintro en wy ⟨rfl, rfl⟩
  rw [show (({ ar := awS14.ar, S := awS14.S } : Rg).S.length : Int) = 3 from by kernel_rfl]
  go_wp2
  go_ret
  exact ⟨rfl, HZ.out.2⟩
end Go.Proofs.Ythgpjiebeinamaa
