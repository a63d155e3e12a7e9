/- The walk of PathFar. -/
import Derived.Test.YtnlpghjlhnhkeaaPa23
import Derived.Test.YtnlpghjlhnhkeaaPa21
namespace Go.Proofs.Ytnlpghjlhnhkeaa
open Go.RowKit

def box08 (w : World) (vP vT : Value) (n0 n1 n2 : Int) : World := (w.alloc (.cells #[vP, vT] 24)).alloc (.cells #[.int .u8 n0, .int .u8 n1, .int .u8 n2] 25)
theorem box08_below (w : World) (vP vT : Value) (n0 n1 n2 : Int) : Below w.heap.size w (box08 w vP vT n0 n1 n2) := ((Below.refl w.heap.size w).alloc (Nat.le_refl _) _).alloc (by simp <;> omega) _
theorem box08_size (w : World) (vP vT : Value) (n0 n1 n2 : Int) : (box08 w vP vT n0 n1 n2).heap.size = w.heap.size + 2 := by unfold box08; simp
theorem box08_cells (w : World) (vP vT : Value) (n0 n1 n2 : Int) (W : World) (k : Below (box08 w vP vT n0 n1 n2).heap.size (box08 w vP vT n0 n1 n2) W) :
    W.cell? ⟨w.heap.size, 0, none⟩ = some vP ∧ W.cell? ⟨w.heap.size, 1, none⟩ = some vT ∧ W.cell? ⟨w.heap.size + 1, 0, none⟩ = some (.int .u8 n0) ∧ W.cell? ⟨w.heap.size + 1, 1, none⟩ = some (.int .u8 n1) ∧ W.cell? ⟨w.heap.size + 1, 2, none⟩ = some (.int .u8 n2) := by
  have hs := box08_size w vP vT n0 n1 n2
  have b1 : Blk W w.heap.size 24 #[vP, vT] := Blk.below (w := box08 w vP vT n0 n1 n2) ((Blk.new w 24 #[vP, vT]).alloc (.cells #[.int .u8 n0, .int .u8 n1, .int .u8 n2] 25)) k (by omega)
  have b2 : Blk W (w.heap.size + 1) 25 #[.int .u8 n0, .int .u8 n1, .int .u8 n2] := Blk.below (w := box08 w vP vT n0 n1 n2) (Blk.new' (w.alloc (.cells #[vP, vT] 24)) 25 #[.int .u8 n0, .int .u8 n1, .int .u8 n2] (g := w.heap.size + 1) (by simp)) k (by omega)
  exact ⟨b1.cell 0, b1.cell 1, b2.cell 0, b2.cell 1, b2.cell 2⟩
set_option maxRecDepth 100000 in
set_option maxHeartbeats 1000000 in
theorem longFr (w : World) (AP AT : Option Addr) (nP cP nT cT : Nat) (n0 n1 n2 : Int) (h : LongT nP nT) :
    Calls Try.prog 3 #[.agg #[.slice AP nP cP, .slice AT nT cT], .agg #[.int .u8 n0, .int .u8 n1, .int .u8 n2]] w fun e w' => e = .returned (.bool true) ∧ Below w.heap.size w w' := by
  have HN := Lib.hid (fun W => new_long W AP AT nP cP nT cT h)
  have HF := Lib.hid (fun W => few_long W AP AT nP cP nT cT h)
  have HS := Lib.hid (box08_cells w (.slice AP nP cP) (.slice AT nT cT) n0 n1 n2)
  have HB := Lib.hid (box08_below w (.slice AP nP cP) (.slice AT nT cT) n0 n1 n2)
  obtain ⟨W0, hW0⟩ : ∃ W0, W0 = box08 w (.slice AP nP cP) (.slice AT nT cT) n0 n1 n2 := ⟨_, rfl⟩
  rw [← hW0] at HS HB
  obtain ⟨f0, f1, _, _, _⟩ := HS.out W0 (Below.refl _ _)
  clear h
  unfold box08 at hW0
  go_enter Try.func3, Try.ntmps3
  go_upto_region 1 with fail
  rw [← hW0]
  clear hW0
  go_wp2_with fail
  refine (HN.out _).mono ?_
  rintro en w1 ⟨rfl, b1⟩
  have B1 := Lib.hid (HB.out.trans (b1.mono HB.out.size))
  obtain ⟨g0, g1, _, _, _⟩ := HS.out w1 b1
  clear b1 f0 f1
  go_wp2_with fail
  refine (HF.out _).mono ?_
  rintro en w2 ⟨rfl, b2⟩
  have B2 := Lib.hid (B1.out.trans (b2.mono B1.out.size))
  clear b2 g0 g1
  go_wp2_with fail
  refine (awake07 _).mono ?_
  rintro en w3 ⟨rfl, b3⟩
  have B3 := Lib.hid (B2.out.trans (b3.mono B2.out.size))
  clear b3
  go_wp2
  go_ret
  exact ⟨rfl, B3.out⟩
set_option maxRecDepth 100000 in
set_option maxHeartbeats 1000000 in
theorem badFr (w : World) (vP vT : Value) (P T : List Int) (n0 n1 n2 : Int) (hP : RdL w vP 1 encI P) (hT : RdL w vT 1 encI T) (hf : fewB P T = true) (hc : chkT P T ≠ 0) :
    Calls Try.prog 3 #[.agg #[vP, vT], .agg #[.int .u8 n0, .int .u8 n1, .int .u8 n2]] w fun e w' => e = .returned (.bool true) ∧ Below w.heap.size w w' := by
  have HN := Lib.hid (fun W (k : Below w.heap.size w W) => new_no W vP vT P T (hP.below k (Nat.le_refl _)) (hT.below k (Nat.le_refl _)) hc)
  have HF := Lib.hid (fun W (k : Below w.heap.size w W) => few_any W vP vT P T true hf (hP.below k (Nat.le_refl _)) (hT.below k (Nat.le_refl _)))
  have HS := Lib.hid (box08_cells w vP vT n0 n1 n2)
  have HB := Lib.hid (box08_below w vP vT n0 n1 n2)
  obtain ⟨W0, hW0⟩ : ∃ W0, W0 = box08 w vP vT n0 n1 n2 := ⟨_, rfl⟩
  rw [← hW0] at HS HB
  obtain ⟨z, hz⟩ : ∃ z, z = chkT P T := ⟨_, rfl⟩
  rw [← hz] at hc HN
  have hz0 : (z != 0) = true := by simpa using hc
  obtain ⟨AP, cP, rfl, lP1, lP2⟩ := rdl_form hP
  obtain ⟨AT, cT, rfl, lT1, lT2⟩ := rdl_form hT
  obtain ⟨f0, f1, _, _, _⟩ := HS.out W0 (Below.refl _ _)
  clear hP hT hf hc hz
  unfold box08 at hW0
  go_enter Try.func3, Try.ntmps3
  go_upto_region 1 with fail
  rw [← hW0]
  clear hW0
  go_wp2_with fail
  refine (HN.out _ HB.out).mono ?_
  rintro en w1 ⟨rfl, b1⟩
  have B1 := Lib.hid (HB.out.trans (b1.mono HB.out.size))
  obtain ⟨g0, g1, _, _, _⟩ := HS.out w1 b1
  clear b1 f0 f1
  go_wp2_with fail
  refine (HF.out _ B1.out).mono ?_
  rintro en w2 ⟨rfl, b2⟩
  have B2 := Lib.hid (B1.out.trans (b2.mono B1.out.size))
  clear b2 g0 g1
  go_wp2_with fail
  refine (awake07 _).mono ?_
  rintro en w3 ⟨rfl, b3⟩
  have B3 := Lib.hid (B2.out.trans (b3.mono B2.out.size))
  clear b3
  go_wp2
  go_ret
  exact ⟨rfl, B3.out⟩
set_option maxRecDepth 100000 in
set_option maxHeartbeats 32000000 in
theorem far07 (w : World) (vP vT : Value) (P T : List Int) (n0 n1 n2 : Nat) (m0 : n0 < 256) (m1 : n1 < 256) (m2 : n2 < 256) (hP : RdL w vP 1 encI P) (hT : RdL w vT 1 encI T) (hf : fewB P T = true) (hc : chkT P T = 0) :
    Calls Try.prog 3 #[.agg #[vP, vT], .agg #[.int .u8 n0, .int .u8 n1, .int .u8 n2]] w fun e w' => e = .returned (.bool true) ∧ Below w.heap.size w w' := by
  have hm := many_lt (chk_ok hc).1
  have HN := Lib.hid (fun W (k : Below w.heap.size w W) => new_yes W vP vT P T (hP.below k (Nat.le_refl _)) (hT.below k (Nat.le_refl _)) hc)
  have HF := Lib.hid (fun W (k : Below w.heap.size w W) => few_any W vP vT P T true hf (hP.below k (Nat.le_refl _)) (hT.below k (Nat.le_refl _)))
  have HS := Lib.hid (box08_cells w vP vT n0 n1 n2)
  have HB := Lib.hid (box08_below w vP vT n0 n1 n2)
  have HM := Lib.hid hc
  obtain ⟨W0, hW0⟩ : ∃ W0, W0 = box08 w vP vT n0 n1 n2 := ⟨_, rfl⟩
  rw [← hW0] at HS HB
  have HT := Lib.hid (fun W b (h : LawG W0 W b P T) => (⟨hP.below (HB.out.trans (h.bel.mono HB.out.size)) (Nat.le_refl _), hT.below (HB.out.trans (h.bel.mono HB.out.size)) (Nat.le_refl _), hc⟩ : TopoAt W vP vT P T))
  obtain ⟨AP, cP, rfl, lP1, lP2⟩ := rdl_form hP
  obtain ⟨AT, cT, rfl, lT1, lT2⟩ := rdl_form hT
  obtain ⟨f0, f1, _, _, _⟩ := HS.out W0 (Below.refl _ _)
  clear hP hT hf hc
  unfold box08 at hW0
  go_enter Try.func3, Try.ntmps3
  go_upto_region 1 with fail
  rw [← hW0]
  clear hW0
  go_wp2_with fail
  refine (HN.out _ HB.out).mono ?_
  rintro en w1 ⟨b, rfl, hlo, hz, b1⟩
  have hG1 : LawG W0 w1 b P T := ⟨⟨HM.out, .inl hz⟩, hlo, b1⟩
  have G1 := Lib.hid hG1
  obtain ⟨f0, f1, f2, f3, f4⟩ := HS.out w1 hG1.bel
  have HF1 := Lib.hid (lawb hG1 (HF.out w1 (HB.out.trans (hG1.bel.mono HB.out.size))))
  clear b1 hG1 hz hlo
  go_wp2_with fail
  refine HF1.out.mono ?_
  rintro en w2 ⟨rfl, hG2⟩
  have G2 := Lib.hid hG2
  clear f0 f1 f2 f3 f4 hG2
  go_wp2_with fail
  refine (threads_any _ b P T G2.out.tab).mono ?_
  rintro en w3 ⟨rfl, rfl⟩
  obtain ⟨f0, f1, f2, f3, f4⟩ := HS.out w2 G2.out.bel
  go_wp2_with fail
  go_quiet (fail)
  have hT1 : 1 ≤ T.length := hm.2.2.1
  have ea : ((n0 : Int) % (T.length : Int)) = ((n0 % T.length : Nat) : Int) := (Int.natCast_emod _ _).symm
  have eb : ((n1 : Int) % (T.length : Int)) = ((n1 % T.length : Nat) : Int) := (Int.natCast_emod _ _).symm
  have ec : ((n2 : Int) % (T.length : Int)) = ((n2 % T.length : Nat) : Int) := (Int.natCast_emod _ _).symm
  rw [ea, eb, ec]
  clear ea eb ec
  have la := Nat.mod_lt n0 hT1
  have lb := Nat.mod_lt n1 hT1
  have lc := Nat.mod_lt n2 hT1
  generalize n0 % T.length = i0 at *
  generalize n1 % T.length = i1 at *
  generalize n2 % T.length = i2 at *
  obtain ⟨x, hx⟩ := getElem?_lt la
  obtain ⟨y, hy⟩ := getElem?_lt lb
  obtain ⟨z, hz⟩ := getElem?_lt lc
  obtain ⟨p1, p2, p3, p4⟩ := far_plain HM.out hx hy
  have p5 := far_ultra HM.out hx hy hz
  have HA := Lib.hid (fun W (h : LawG W0 W b P T) => lawg h (farT W b P T i0 i1 h.tab))
  have HA2 := Lib.hid (fun W (h : LawG W0 W b P T) => lawg h (farT W b P T i1 i0 h.tab))
  have HBC := Lib.hid (fun W (h : LawG W0 W b P T) => lawg h (farT W b P T i1 i2 h.tab))
  have HAC := Lib.hid (fun W (h : LawG W0 W b P T) => lawg h (farT W b P T i0 i2 h.tab))
  have HM1 := Lib.hid (fun W (h : LawG W0 W b P T) => lawg h (meetT W b P T i0 i1 h.tab))
  have HM2 := Lib.hid (fun W (h : LawG W0 W b P T) => lawg h (meetT W b P T i1 i0 h.tab))
  rw [← p2] at HA2
  rw [← p3] at HM2
  generalize farI P T i0 i1 = fab at *
  generalize farI P T i1 i2 = fbc at *
  generalize farI P T i0 i2 = fac at *
  generalize meetI P T i0 i1 = mab at *
  obtain ⟨e, he1, he2⟩ : ∃ e : Bool, (fab == 0) = e ∧ (x == y) = e := by
    refine ⟨x == y, ?_, rfl⟩
    rw [Bool.eq_iff_iff, beq_iff_eq, beq_iff_eq]; exact p4
  have GD := Lib.hid (fun n => G2.out.below (w' := w2.drewN n) (below_drewN (Below.refl _ _) n))
  have HX := Lib.hid (And.intro hx hy)
  have HT2 := Lib.hid (fun W (h : LawG W0 W b P T) => (HT.out W b h).t)
  clear p2 p3 p4 hx hy hz f0 f1 f2 f3 f4
  go_wp2_with fail
  refine (HA.out _ (GD.out nq)).mono ?_
  rintro en w3 ⟨rfl, h3⟩
  have L3 := Lib.hid h3
  clear h3
  go_wp2_with fail
  refine (HBC.out _ L3.out).mono ?_
  rintro en w4 ⟨rfl, h4⟩
  have L4 := Lib.hid h4
  clear h4
  go_wp2_with fail
  refine (HAC.out _ L4.out).mono ?_
  rintro en w5 ⟨rfl, h5⟩
  have L5 := Lib.hid h5
  obtain ⟨bT, oT, hAT, _, hcT⟩ := rdl_int (HT2.out _ h5) (by omega)
  subst hAT
  have HV : Hid (∀ W, LawG W0 W b P T → W.cell? ⟨w.heap.size, 1, none⟩ = some (.slice (some ⟨bT, oT, none⟩) T.length cT) ∧ W.cell? ⟨bT, oT + i0, none⟩ = some (.int .i64 x) ∧ W.cell? ⟨bT, oT + i1, none⟩ = some (.int .i64 y)) := Lib.hid fun W h => by
    refine ⟨(HS.out W h.bel).2.1, ?_, ?_⟩
    · obtain ⟨b', o', e', _, hc'⟩ := rdl_int (HT2.out _ h) (by omega)
      injection e' with e'
      injection e' with e1 e2
      subst e1 e2
      exact hc' i0 x HX.out.1
    · obtain ⟨b', o', e', _, hc'⟩ := rdl_int (HT2.out _ h) (by omega)
      injection e' with e'
      injection e' with e1 e2
      subst e1 e2
      exact hc' i1 y HX.out.2
  have L6 := Lib.hid (h5.below (Below.refl w5.heap.size w5).drew)
  clear h5 hcT
  go_wp2_with fail
  first | (simp only [List.cons_append, List.nil_append, List.append_eq]) | skip
  by_cases hmx : fab < fbc
  · have p6 : fac ≤ fbc := by omega
    have p7 : fbc > fab := hmx
    clear p5
    go_region_held3 (fun W => W.cell? ⟨w.heap.size, 1, none⟩ = some (.slice (some ⟨bT, oT, none⟩) T.length cT) ∧ W.cell? ⟨bT, oT + i0, none⟩ = some (.int .i64 x) ∧ W.cell? ⟨bT, oT + i1, none⟩ = some (.int .i64 y))
      (first | exact HV.out _ L10.out | exact HV.out _ L9.out | exact HV.out _ L8.out | exact HV.out _ L7.out | exact HV.out _ L6.out)
      (first
        | (go_at_call 12; (with_reducible refine (HA2.out _ L6.out).mono ?_); rintro en w7 ⟨rfl, h7⟩; have L7 := Lib.hid h7; clear h7)
        | (go_at_call 13; (with_reducible refine (HM1.out _ L7.out).mono ?_); rintro en w8 ⟨rfl, h8⟩; have L8 := Lib.hid h8; clear h8)
        | (go_at_call 13; (with_reducible refine (HM2.out _ L8.out).mono ?_); rintro en w9 ⟨rfl, h9⟩; have L9 := Lib.hid h9; clear h9)
        | (go_at_call 10; (with_reducible refine (lawb L9.out (awake07 _)).mono ?_); rintro en w10 ⟨rfl, h10⟩; have L10 := Lib.hid h10; clear h10))
    all_goals
      have K := Lib.hid (HB.out.trans (L10.out.bel.mono HB.out.size))
      go_wp2
      go_ret
      exact ⟨rfl, K.out⟩
  · have p6 : fac ≤ fab := by omega
    have p7 : ¬ fbc > fab := hmx
    clear p5
    go_region_held3 (fun W => W.cell? ⟨w.heap.size, 1, none⟩ = some (.slice (some ⟨bT, oT, none⟩) T.length cT) ∧ W.cell? ⟨bT, oT + i0, none⟩ = some (.int .i64 x) ∧ W.cell? ⟨bT, oT + i1, none⟩ = some (.int .i64 y))
      (first | exact HV.out _ L10.out | exact HV.out _ L9.out | exact HV.out _ L8.out | exact HV.out _ L7.out | exact HV.out _ L6.out)
      (first
        | (go_at_call 12; (with_reducible refine (HA2.out _ L6.out).mono ?_); rintro en w7 ⟨rfl, h7⟩; have L7 := Lib.hid h7; clear h7)
        | (go_at_call 13; (with_reducible refine (HM1.out _ L7.out).mono ?_); rintro en w8 ⟨rfl, h8⟩; have L8 := Lib.hid h8; clear h8)
        | (go_at_call 13; (with_reducible refine (HM2.out _ L8.out).mono ?_); rintro en w9 ⟨rfl, h9⟩; have L9 := Lib.hid h9; clear h9)
        | (go_at_call 10; (with_reducible refine (lawb L9.out (awake07 _)).mono ?_); rintro en w10 ⟨rfl, h10⟩; have L10 := Lib.hid h10; clear h10))
    all_goals
      have K := Lib.hid (HB.out.trans (L10.out.bel.mono HB.out.size))
      go_wp2
      go_ret
      exact ⟨rfl, K.out⟩
end Go.Proofs.Ytnlpghjlhnhkeaa
