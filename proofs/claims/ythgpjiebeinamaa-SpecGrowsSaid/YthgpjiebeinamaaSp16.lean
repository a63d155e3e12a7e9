/- Layer 44: the walk of SpecGrows. -/
import Derived.Test.YthgpjiebeinamaaSp13
import Derived.Test.YthgpjiebeinamaaSp14
import Derived.Test.YthgpjiebeinamaaOpen4
namespace Go.Proofs.Ythgpjiebeinamaa
open Go.RowKit

theorem few_rawG (w : World) (AP AT : Option Addr) (nP cP nT cT : Nat) (h : 60 < nP ∨ 60 < nT) (h1 : nP ≤ 9223372036854775807) (h2 : nT ≤ 9223372036854775807) :
    Calls Try.prog 25 #[.agg #[.slice AP nP cP, .slice AT nT cT]] w fun e w' => e = .returned (.bool false) ∧ Below w.heap.size w w' := by
  go_enter Try.func25, Try.ntmps25
  by_cases h3 : 60 < nP
  · go_wp2
    go_ret
    exact ⟨rfl, (Below.refl _ _).alloc (Nat.le_refl _) _⟩
  · have h4 : 60 < nT := by omega
    have h5 : decide ((nT : Int) ≤ 60) = false := decide_eq_false (by omega)
    go_wp2
    go_ret
    exact ⟨rfl, (Below.refl _ _).alloc (Nat.le_refl _) _⟩
set_option maxRecDepth 100000 in
set_option maxHeartbeats 8000000 in
theorem longSg (w : World) (AP AT : Option Addr) (nP cP nT cT : Nat) (kind g l p b n0 n1 n2 n3 n4 : Int) (h : 60 < nP ∨ 60 < nT) (h1 : nP ≤ 9223372036854775807) (h2 : nT ≤ 9223372036854775807) :
    Calls Try.prog 7 #[.agg #[.slice AP nP cP, .slice AT nT cT], .agg #[.int .i64 kind, .int .i64 g, .int .i64 l, .int .i64 p, .int .i64 b], .agg #[.int .u8 n0, .int .u8 n1, .int .u8 n2, .int .u8 n3, .int .u8 n4]] w fun e w' => e = .returned (.bool true) ∧ Below w.heap.size w w' := by
  have HF := Lib.hid (fun W => few_rawG W AP AT nP cP nT cT h h1 h2)
  clear h
  go_enter Try.func7, Try.ntmps7
  go_wp2_with fail
  refine (HF.out _).mono ?_
  rintro en w1 ⟨rfl, b1⟩
  have s1 := b1.size
  simp at s1
  have B1 := Lib.hid ((((((Below.refl _ _).alloc (Nat.le_refl _) _).alloc (by simp <;> omega) _).alloc (by simp <;> omega) _) : Below w.heap.size w _).trans (b1.mono (by simp; omega)))
  clear b1
  go_wp2_with fail
  refine (awake44 _).mono ?_
  rintro en w2 ⟨rfl, b2⟩
  have B2 := Lib.hid (B1.out.trans (b2.mono B1.out.size))
  clear b2
  go_wp2
  go_ret
  exact ⟨rfl, B2.out⟩
theorem each_of (w : World) (vP vT : Value) (P T : List Int) (kind g l p b k s : Int) (r : Bool) (n : Nat) (x y : Int) (hx : x = k) (hy : y = s) (h : eachI P T kind g l b k s r = n) (hP : RdL w vP 1 encI P) (hT : RdL w vT 1 encI T) :
    Calls Try.prog 27 #[.agg #[vP, vT], .agg #[.int .i64 kind, .int .i64 g, .int .i64 l, .int .i64 p, .int .i64 b], .int .i64 x, .int .i64 y, .bool r] w fun e w' => e = .returned (.int .i64 (n : Nat)) ∧ Below w.heap.size w w' := by subst hx hy h; exact peach_any w vP vT P T kind g l p b x y r hP hT
set_option maxRecDepth 100000 in
set_option maxHeartbeats 32000000 in
theorem grows44 (w : World) (vP vT : Value) (P T : List Int) (kind g l p b : Int) (n0 n1 n2 n3 n4 : Nat) (z0 : n0 < 256) (z1 : n1 < 256) (z2 : n2 < 256) (z3 : n3 < 256) (z4 : n4 < 256) (hP : RdL w vP 1 encI P) (hT : RdL w vT 1 encI T) (hf : fewB P T = true) :
    Calls Try.prog 7 #[.agg #[vP, vT], .agg #[.int .i64 kind, .int .i64 g, .int .i64 l, .int .i64 p, .int .i64 b], .agg #[.int .u8 n0, .int .u8 n1, .int .u8 n2, .int .u8 n3, .int .u8 n4]] w fun e w' => e = .returned (.bool true) ∧ Below w.heap.size w w' := by
  obtain ⟨W0, hW0⟩ : ∃ W0, W0 = ((w.alloc (.cells #[vP, vT] 61)).alloc (.cells #[.int .i64 kind, .int .i64 g, .int .i64 l, .int .i64 p, .int .i64 b] 65)).alloc (.cells #[.int .u8 n0, .int .u8 n1, .int .u8 n2, .int .u8 n3, .int .u8 n4] 73) := ⟨_, rfl⟩
  have hb0 : Below w.heap.size w W0 := by rw [hW0]; exact (((Below.refl _ _).alloc (Nat.le_refl _) _).alloc (by simp <;> omega) _).alloc (by simp <;> omega) _
  have HPT := Lib.hid (And.intro hP hT)
  have HFw := Lib.hid (fun W (h : Below w.heap.size w W) => few_any W vP vT P T true hf (hP.below h (Nat.le_refl _)) (hT.below h (Nat.le_refl _)))
  have bl0 : Blk W0 w.heap.size 61 #[vP, vT] := by rw [hW0]; exact ((Blk.new w _ _).alloc _).alloc _
  have bl1 : Blk W0 (w.heap.size + 1) 65 #[.int .i64 kind, .int .i64 g, .int .i64 l, .int .i64 p, .int .i64 b] := by rw [hW0]; exact (Blk.new' _ _ _ (by simp)).alloc _
  have bl2 : Blk W0 (w.heap.size + 1 + 1) 73 #[.int .u8 n0, .int .u8 n1, .int .u8 n2, .int .u8 n3, .int .u8 n4] := by rw [hW0]; exact Blk.new' _ _ _ (by simp)
  have HBL := Lib.hid (And.intro bl0 (And.intro bl1 bl2))
  obtain ⟨AP, cP, rfl, lP1, lP2⟩ := rdl_form hP
  obtain ⟨AT, cT, rfl, lT1, lT2⟩ := rdl_form hT
  have HB := Lib.hid hb0
  have f0 := bl0.cell 0
  have f1 := bl0.cell 1
  obtain ⟨r, hr⟩ : ∃ r : Bool, r = decide (n2 % 2 = 1) := ⟨_, rfl⟩
  have hr2 : (((n2 : Int) % 2) == 1) = r := by
    rw [hr, Bool.eq_iff_iff]
    simp
    omega
  obtain ⟨a, ha⟩ : ∃ a, a = eachI P T kind g l b ((1 + n0 : Nat) : Int) (n1 : Nat) r := ⟨_, rfl⟩
  obtain ⟨c, hc⟩ : ∃ c, c = eachI P T kind g l b ((1 + n0 + n3 : Nat) : Int) ((n1 + n4 : Nat) : Int) r := ⟨_, rfl⟩
  obtain ⟨m1, m2, m3⟩ := grows (P := P) (T := T) (kind := kind) (g := g) (l := l) (b := b) (r := r) (k := 1 + n0) (k' := 1 + n0 + n3) (s := n1) (s' := n1 + n4) (by omega) (by omega) (by omega) (by omega) (by omega)
  rw [← ha, ← hc] at m1 m2
  rw [← hc] at m3
  have HA := Lib.hid (And.intro ha.symm hc.symm)
  have x1 : decide (a ≤ c) = true := decide_eq_true m1
  have x2 : (((a : Int) == 0) == ((c : Int) == 0)) = true := by
    rw [beq_iff_eq, Bool.eq_iff_iff, beq_iff_eq, beq_iff_eq]
    omega
  clear hP hT hb0 hf bl0 bl1 bl2 hr ha hc m2
  go_enter Try.func7, Try.ntmps7
  go_upto_region 1 with fail
  rw [← hW0]
  clear hW0
  go_wp2_with fail
  refine (HFw.out _ HB.out).mono ?_
  rintro en w1 ⟨rfl, b1⟩
  have BL1 := Lib.hid (And.intro (HBL.out.1.below b1 HBL.out.1.lt) (And.intro (HBL.out.2.1.below b1 HBL.out.2.1.lt) (HBL.out.2.2.below b1 HBL.out.2.2.lt)))
  have B1 := Lib.hid (HB.out.trans (b1.mono HB.out.size))
  clear b1 f0 f1
  have h0 := BL1.out.2.2.cell 0
  have h1 := BL1.out.2.2.cell 1
  have h2 := BL1.out.2.2.cell 2
  go_wp2_with fail
  go_quiet (fail)
  have BL2 := Lib.hid (show Blk (w1.drewN nq) w.heap.size 61 #[.slice AP P.length cP, .slice AT T.length cT] ∧ Blk (w1.drewN nq) (w.heap.size + 1) 65 #[.int .i64 kind, .int .i64 g, .int .i64 l, .int .i64 p, .int .i64 b] ∧ Blk (w1.drewN nq) (w.heap.size + 1 + 1) 73 #[.int .u8 n0, .int .u8 n1, .int .u8 n2, .int .u8 n3, .int .u8 n4] from BL1.out)
  have B2 := Lib.hid (below_drewN B1.out nq)
  clear h0 h1 h2 BL1
  generalize w1.drewN nq = w2 at *
  have HP2 := Lib.hid (fun W (h : Below w2.heap.size w2 W) => And.intro (HPT.out.1.below (B2.out.trans (h.mono B2.out.size)) (Nat.le_refl _)) (HPT.out.2.below (B2.out.trans (h.mono B2.out.size)) (Nat.le_refl _)))
  have f0 := BL2.out.1.cell 0
  have f1 := BL2.out.1.cell 1
  have g0 := BL2.out.2.1.cell 0
  have g1 := BL2.out.2.1.cell 1
  have g2 := BL2.out.2.1.cell 2
  have g3 := BL2.out.2.1.cell 3
  have g4 := BL2.out.2.1.cell 4
  go_wp2_with fail
  refine (each_of _ _ _ P T kind g l p b _ _ r a _ _ (by omega) (by rfl) HA.out.1 (HP2.out _ (Below.refl _ _)).1 (HP2.out _ (Below.refl _ _)).2).mono ?_
  rintro en w3 ⟨rfl, b3⟩
  have BL3 := Lib.hid (And.intro (BL2.out.1.below b3 BL2.out.1.lt) (And.intro (BL2.out.2.1.below b3 BL2.out.2.1.lt) (BL2.out.2.2.below b3 BL2.out.2.2.lt)))
  have B3 := Lib.hid b3
  clear b3 f0 f1 g0 g1 g2 g3 g4
  have f0 := BL3.out.1.cell 0
  have f1 := BL3.out.1.cell 1
  have g0 := BL3.out.2.1.cell 0
  have g1 := BL3.out.2.1.cell 1
  have g2 := BL3.out.2.1.cell 2
  have g3 := BL3.out.2.1.cell 3
  have g4 := BL3.out.2.1.cell 4
  have h3 := BL3.out.2.2.cell 3
  have h4 := BL3.out.2.2.cell 4
  go_wp2_with fail
  refine (each_of _ _ _ P T kind g l p b _ _ r c _ _ (by omega) (by omega) HA.out.2 (HP2.out _ B3.out).1 (HP2.out _ B3.out).2).mono ?_
  rintro en w4 ⟨rfl, b4⟩
  have B4 := Lib.hid (B2.out.trans ((B3.out.trans (b4.mono B3.out.size)).mono B2.out.size))
  clear b4 f0 f1 g0 g1 g2 g3 g4 h3 h4
  go_wp2_with (first | (go_at_call 33; refine (most_any _).mono ?_; rintro e w' ⟨rfl, rfl⟩) | (go_at_call 26; refine (awake44 _).mono ?_; rintro e w5 ⟨rfl, b5⟩; have B5 := Lib.hid (B4.out.trans (b5.mono B4.out.size)); clear b5))
  go_ret
  exact ⟨rfl, B5.out⟩
end Go.Proofs.Ythgpjiebeinamaa
