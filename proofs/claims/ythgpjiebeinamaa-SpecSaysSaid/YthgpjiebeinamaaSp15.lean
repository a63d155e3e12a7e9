/- Layer 44: the walk of SpecSays. -/
import Derived.Test.YthgpjiebeinamaaSp13
import Derived.Test.YthgpjiebeinamaaOpen4
namespace Go.Proofs.Ythgpjiebeinamaa
open Go.RowKit

theorem few_raw (w : World) (AP AT : Option Addr) (nP cP nT cT : Nat) (h : 60 < nP ∨ 60 < nT) (h1 : nP ≤ 9223372036854775807) (h2 : nT ≤ 9223372036854775807) :
    Calls Try.prog 25 #[.agg #[.slice AP nP cP, .slice AT nT cT]] w fun e w' => e = .returned (.bool false) ∧ Below w.heap.size w w' := by
  go_enter Try.func25, Try.ntmps25
  by_cases h3 : 60 < nP
  · go_wp2
    go_ret
    exact ⟨rfl, (Below.refl _ _).alloc (Nat.le_refl _) _⟩
  · have h4 : 60 < nT := by omega
    have h5 : decide ((nT : Int) ≤ 60) = false := decide_eq_false (by omega)
    go_wp2
    go_ret
    exact ⟨rfl, (Below.refl _ _).alloc (Nat.le_refl _) _⟩
set_option maxRecDepth 100000 in
set_option maxHeartbeats 8000000 in
theorem longSp (w : World) (AP AT : Option Addr) (nP cP nT cT : Nat) (kind g l p b k s A B C : Int) (r : Bool) (h : 60 < nP ∨ 60 < nT) (h1 : nP ≤ 9223372036854775807) (h2 : nT ≤ 9223372036854775807) :
    Calls Try.prog 6 #[.agg #[.slice AP nP cP, .slice AT nT cT], .agg #[.int .i64 kind, .int .i64 g, .int .i64 l, .int .i64 p, .int .i64 b], .agg #[.int .i64 k, .int .i64 s, .bool r, .int .i64 A, .int .i64 B, .int .i64 C]] w fun e w' => e = .returned (.bool true) ∧ Below w.heap.size w w' := by
  have HF := Lib.hid (fun W => few_raw W AP AT nP cP nT cT h h1 h2)
  clear h
  go_enter Try.func6, Try.ntmps6
  go_wp2_with fail
  refine (HF.out _).mono ?_
  rintro en w1 ⟨rfl, b1⟩
  have s1 := b1.size
  simp at s1
  have B1 := Lib.hid ((((((Below.refl _ _).alloc (Nat.le_refl _) _).alloc (by simp <;> omega) _).alloc (by simp <;> omega) _) : Below w.heap.size w _).trans (b1.mono (by simp; omega)))
  clear b1
  go_wp2_with fail
  refine (awake44 _).mono ?_
  rintro en w2 ⟨rfl, b2⟩
  have B2 := Lib.hid (B1.out.trans (b2.mono B1.out.size))
  clear b2
  go_wp2
  go_ret
  exact ⟨rfl, B2.out⟩
set_option maxRecDepth 100000 in
set_option maxHeartbeats 32000000 in
theorem says44 (w : World) (vP vT : Value) (P T : List Int) (kind g l p b k s A B C : Int) (r : Bool) (hP : RdL w vP 1 encI P) (hT : RdL w vT 1 encI T) (hf : fewB P T = true) :
    Calls Try.prog 6 #[.agg #[vP, vT], .agg #[.int .i64 kind, .int .i64 g, .int .i64 l, .int .i64 p, .int .i64 b], .agg #[.int .i64 k, .int .i64 s, .bool r, .int .i64 A, .int .i64 B, .int .i64 C]] w fun e w' => e = .returned (.bool true) ∧ Below w.heap.size w w' := by
  obtain ⟨W0, hW0⟩ : ∃ W0, W0 = ((w.alloc (.cells #[vP, vT] 61)).alloc (.cells #[.int .i64 kind, .int .i64 g, .int .i64 l, .int .i64 p, .int .i64 b] 65)).alloc (.cells #[.int .i64 k, .int .i64 s, .bool r, .int .i64 A, .int .i64 B, .int .i64 C] 67) := ⟨_, rfl⟩
  have hb0 : Below w.heap.size w W0 := by rw [hW0]; exact (((Below.refl _ _).alloc (Nat.le_refl _) _).alloc (by simp <;> omega) _).alloc (by simp <;> omega) _
  have hsz0 : W0.heap.size = w.heap.size + 3 := by rw [hW0]; simp
  have HPT := Lib.hid (And.intro hP hT)
  have HFw := Lib.hid (fun W (h : Below w.heap.size w W) => few_any W vP vT P T true hf (hP.below h (Nat.le_refl _)) (hT.below h (Nat.le_refl _)))
  have bl0 : Blk W0 w.heap.size 61 #[vP, vT] := by rw [hW0]; exact ((Blk.new w _ _).alloc _).alloc _
  have bl1 : Blk W0 (w.heap.size + 1) 65 #[.int .i64 kind, .int .i64 g, .int .i64 l, .int .i64 p, .int .i64 b] := by rw [hW0]; exact (Blk.new' _ _ _ (by simp)).alloc _
  have bl2 : Blk W0 (w.heap.size + 1 + 1) 67 #[.int .i64 k, .int .i64 s, .bool r, .int .i64 A, .int .i64 B, .int .i64 C] := by rw [hW0]; exact Blk.new' _ _ _ (by simp)
  have HBL := Lib.hid (And.intro bl0 (And.intro bl1 bl2))
  obtain ⟨AP, cP, rfl, lP1, lP2⟩ := rdl_form hP
  obtain ⟨AT, cT, rfl, lT1, lT2⟩ := rdl_form hT
  have HB := Lib.hid hb0
  have f0 := bl0.cell 0
  have f1 := bl0.cell 1
  clear hP hT hb0 hf bl0 bl1 bl2
  go_enter Try.func6, Try.ntmps6
  go_upto_region 1 with fail
  rw [← hW0]
  clear hW0
  go_wp2_with fail
  refine (HFw.out _ HB.out).mono ?_
  rintro en w1 ⟨rfl, b1⟩
  have BL1 := Lib.hid (And.intro (HBL.out.1.below b1 HBL.out.1.lt) (And.intro (HBL.out.2.1.below b1 HBL.out.2.1.lt) (HBL.out.2.2.below b1 HBL.out.2.2.lt)))
  have B1 := Lib.hid (HB.out.trans (b1.mono HB.out.size))
  clear b1 f0 f1
  have HS := Lib.hid (show ∀ W : World, Below w1.heap.size w1 W → W.cell? ⟨w.heap.size, 0, none⟩ = some (.slice AP P.length cP) ∧ W.cell? ⟨w.heap.size, 1, none⟩ = some (.slice AT T.length cT) ∧ W.cell? ⟨w.heap.size + 1, 0, none⟩ = some (.int .i64 kind) ∧ W.cell? ⟨w.heap.size + 1, 1, none⟩ = some (.int .i64 g) ∧ W.cell? ⟨w.heap.size + 1, 2, none⟩ = some (.int .i64 l) ∧ W.cell? ⟨w.heap.size + 1, 3, none⟩ = some (.int .i64 p) ∧ W.cell? ⟨w.heap.size + 1, 4, none⟩ = some (.int .i64 b) ∧ W.cell? ⟨w.heap.size + 1 + 1, 0, none⟩ = some (.int .i64 k) ∧ W.cell? ⟨w.heap.size + 1 + 1, 1, none⟩ = some (.int .i64 s) ∧ W.cell? ⟨w.heap.size + 1 + 1, 2, none⟩ = some (.bool r) ∧ W.cell? ⟨w.heap.size + 1 + 1, 3, none⟩ = some (.int .i64 A) ∧ W.cell? ⟨w.heap.size + 1 + 1, 4, none⟩ = some (.int .i64 B) ∧ W.cell? ⟨w.heap.size + 1 + 1, 5, none⟩ = some (.int .i64 C) from fun W hW => by
    have q0 := BL1.out.1.below hW BL1.out.1.lt
    have q1 := BL1.out.2.1.below hW BL1.out.2.1.lt
    have q2 := BL1.out.2.2.below hW BL1.out.2.2.lt
    exact ⟨q0.cell 0, q0.cell 1, q1.cell 0, q1.cell 1, q1.cell 2, q1.cell 3, q1.cell 4, q2.cell 0, q2.cell 1, q2.cell 2, q2.cell 3, q2.cell 4, q2.cell 5⟩)
  have bd : Below w1.heap.size w1 w1.drew := (Below.refl _ _).drew
  have HP1 := Lib.hid (fun W (h : Below w1.heap.size w1 W) => And.intro (HPT.out.1.below (B1.out.trans (h.mono B1.out.size)) (Nat.le_refl _)) (HPT.out.2.below (B1.out.trans (h.mono B1.out.size)) (Nat.le_refl _)))
  go_wp2_with fail
  simp only [List.cons_append, List.nil_append, List.append_eq]
  go_region_held3 (fun W => W.cell? ⟨w.heap.size, 0, none⟩ = some (.slice AP P.length cP) ∧ W.cell? ⟨w.heap.size, 1, none⟩ = some (.slice AT T.length cT) ∧ W.cell? ⟨w.heap.size + 1, 0, none⟩ = some (.int .i64 kind) ∧ W.cell? ⟨w.heap.size + 1, 1, none⟩ = some (.int .i64 g) ∧ W.cell? ⟨w.heap.size + 1, 2, none⟩ = some (.int .i64 l) ∧ W.cell? ⟨w.heap.size + 1, 3, none⟩ = some (.int .i64 p) ∧ W.cell? ⟨w.heap.size + 1, 4, none⟩ = some (.int .i64 b) ∧ W.cell? ⟨w.heap.size + 1 + 1, 0, none⟩ = some (.int .i64 k) ∧ W.cell? ⟨w.heap.size + 1 + 1, 1, none⟩ = some (.int .i64 s) ∧ W.cell? ⟨w.heap.size + 1 + 1, 2, none⟩ = some (.bool r) ∧ W.cell? ⟨w.heap.size + 1 + 1, 3, none⟩ = some (.int .i64 A) ∧ W.cell? ⟨w.heap.size + 1 + 1, 4, none⟩ = some (.int .i64 B) ∧ W.cell? ⟨w.heap.size + 1 + 1, 5, none⟩ = some (.int .i64 C))
    (first | exact HS.out _ bd | exact HS.out _ k7 | exact HS.out _ k5 | exact HS.out _ k4 | exact HS.out _ k3 | exact HS.out _ k2 | exact HS.out _ k6)
    (first
      | (go_at_call 27; go_loud (refine (peach_any _ _ _ P T kind g l p b k s r (HP1.out _ bd).1 (HP1.out _ bd).2).mono ?_); rintro e w2 ⟨rfl, b2⟩; (have k2 : Below w1.heap.size w1 w2 := bd.trans (b2.mono (by simp))); clear b2)
      | (go_at_call 28; go_loud (refine (reach_any _ _ _ P T kind g l p b k s r (HP1.out _ k2).1 (HP1.out _ k2).2).mono ?_); rintro e w3 ⟨rfl, b3⟩; (have k3 : Below w1.heap.size w1 w3 := k2.trans (b3.mono k2.size)); clear b3)
      | (go_at_call 29; go_loud (refine (coh_any _ _ _ _ _ _ _ _).mono ?_); rintro e w4 ⟨rfl, b4⟩; (have k4 : Below w1.heap.size w1 w4 := k3.trans (b4.mono k3.size)); clear b4)
      | (go_at_call 30; go_loud (refine (rcoh_any _ _ _ _ _ _ _ _).mono ?_); rintro e w5 ⟨rfl, b5⟩; (have k5 : Below w1.heap.size w1 w5 := k4.trans (b5.mono k4.size)); clear b5)
      | (go_at_call 31; go_loud (refine (ptree_any _ _ _ _ _ _).mono ?_); rintro e w6 ⟨rfl, b6⟩; (have k6 : Below w1.heap.size w1 w6 := k5.trans (b6.mono k5.size)); clear b6)
      | (go_at_call 32; go_loud (refine (rtree_any _ _ _ _ _ _).mono ?_); rintro e w' ⟨rfl, rfl⟩)
      | (go_at_call 26; go_loud (refine (awake44 _).mono ?_); rintro e w7 ⟨rfl, b7⟩; (have k7 : Below w1.heap.size w1 w7 := k6.trans (b7.mono k6.size)); clear b7))
  all_goals
    have K7 := Lib.hid (B1.out.trans (k7.mono B1.out.size))
    go_wp2
    go_ret
    exact ⟨rfl, K7.out⟩
end Go.Proofs.Ythgpjiebeinamaa
