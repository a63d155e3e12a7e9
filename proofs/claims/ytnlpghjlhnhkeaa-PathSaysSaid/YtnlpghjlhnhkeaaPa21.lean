/- The walk of PathSays. -/
import Derived.Test.YtnlpghjlhnhkeaaPa20
namespace Go.Proofs.Ytnlpghjlhnhkeaa
open Go.RowKit

theorem sameIT (w : World) (v1 v2 : Value) (a : List Int) (h1 : RdL w v1 1 encI a) (h2 : RdL w v2 1 encI a) :
    Calls Try.prog 22 #[v1, v2] w fun e w' => e = .returned (.bool true) ∧ Below w.heap.size w w' :=
  (sameInt_any w v1 v2 a a h1 h2).mono fun _ _ ⟨he, hq⟩ => ⟨by rw [he]; simp, hq.below _⟩
set_option maxHeartbeats 1000000 in
theorem topoSame (w : World) (p1 t1 p2 t2 : Value) (P T : List Int) (hp1 : RdL w p1 1 encI P) (ht1 : RdL w t1 1 encI T) (hp2 : RdL w p2 1 encI P) (ht2 : RdL w t2 1 encI T) :
    Calls Try.prog 28 #[.agg #[p1, t1], .agg #[p2, t2]] w fun e w' => e = .returned (.bool true) ∧ Below w.heap.size w w' := by
  have HP := Lib.hid (fun W (k : Below w.heap.size w W) => sameIT W p1 p2 P (hp1.below k (Nat.le_refl _)) (hp2.below k (Nat.le_refl _)))
  have HT := Lib.hid (fun W (k : Below w.heap.size w W) => sameIT W t1 t2 T (ht1.below k (Nat.le_refl _)) (ht2.below k (Nat.le_refl _)))
  have HB0 := Lib.hid (((Below.refl w.heap.size w).alloc (Nat.le_refl _) (.cells #[p1, t1] 24)).alloc (by simp <;> omega) (.cells #[p2, t2] 24))
  have HC : Hid (∀ W, Below ((w.alloc (.cells #[p1, t1] 24)).alloc (.cells #[p2, t2] 24)).heap.size ((w.alloc (.cells #[p1, t1] 24)).alloc (.cells #[p2, t2] 24)) W → W.cell? ⟨w.heap.size, 1, none⟩ = some t1 ∧ W.cell? ⟨w.heap.size + 1, 1, none⟩ = some t2) := Lib.hid fun W k => by
    have b1 := (((Blk.new w 24 #[p1, t1]).alloc (.cells #[p2, t2] 24)).below k (by simp <;> omega)).cell 1
    have b2 := ((Blk.new' (w.alloc (.cells #[p1, t1] 24)) 24 #[p2, t2] (g := w.heap.size + 1) (by simp)).below k (by simp <;> omega)).cell 1
    exact ⟨b1, b2⟩
  obtain ⟨A1, c1, rfl, _, _⟩ := rdl_form hp1
  obtain ⟨A2, c2, rfl, _, _⟩ := rdl_form ht1
  obtain ⟨A3, c3, rfl, _, _⟩ := rdl_form hp2
  obtain ⟨A4, c4, rfl, _, _⟩ := rdl_form ht2
  clear hp1 ht1 hp2 ht2
  go_enter Try.func28, Try.ntmps28
  go_wp2_with fail
  refine (HP.out _ HB0.out).mono ?_
  rintro en w1 ⟨rfl, b1⟩
  obtain ⟨x1, x2⟩ := HC.out _ b1
  have B1 := Lib.hid (HB0.out.trans (b1.mono HB0.out.size))
  clear b1
  go_wp2_with fail
  refine (HT.out _ B1.out).mono ?_
  rintro en w2 ⟨rfl, b2⟩
  have B2 := Lib.hid (B1.out.trans (b2.mono B1.out.size))
  clear b2
  go_wp2
  go_ret
  exact ⟨rfl, B2.out⟩
/-- in the middle of a law: W0 is the world with all arguments boxed -/
structure LawG (W0 wr : World) (b : Nat) (P T : List Int) : Prop where
  tab : Tab wr b P T
  lo : W0.heap.size ≤ b
  bel : Below W0.heap.size W0 wr
theorem LawG.turn {W0 wr w' : World} {b : Nat} {P T : List Int} (h : LawG W0 wr b P T) (ht : Tab w' b P T) (k : Turns [b] wr w') : LawG W0 w' b P T :=
  ⟨ht, h.lo, h.bel.trans (k.below (by simpa using h.lo) h.bel.size)⟩
theorem LawG.below {W0 wr w' : World} {b : Nat} {P T : List Int} (h : LawG W0 wr b P T) (k : Below wr.heap.size wr w') : LawG W0 w' b P T := ⟨h.tab.below k, h.lo, h.bel.trans (k.mono h.bel.size)⟩
theorem lawg {f : FuncId} {args : Array Value} {W0 wr : World} {b : Nat} {P T : List Int} {v : Value} (h : LawG W0 wr b P T) (hc : Calls Try.prog f args wr (Tells wr b P T v)) :
    Calls Try.prog f args wr fun e w' => e = .returned v ∧ LawG W0 w' b P T := hc.mono fun _ _ ⟨h1, h2, h3⟩ => ⟨h1, h.turn h2 h3⟩
theorem lawb {f : FuncId} {args : Array Value} {W0 wr : World} {b : Nat} {P T : List Int} {v : Value} (h : LawG W0 wr b P T) (hc : Calls Try.prog f args wr fun e w' => e = .returned v ∧ Below wr.heap.size wr w') :
    Calls Try.prog f args wr fun e w' => e = .returned v ∧ LawG W0 w' b P T := hc.mono fun _ _ ⟨h1, h2⟩ => ⟨h1, h.below h2⟩
theorem lawn {W0 wr : World} {b : Nat} {P T : List Int} (h : LawG W0 wr b P T) :
    Calls Try.prog 14 #[.pointer (some ⟨b, 0, none⟩)] wr fun e w' => e = .returned (.int .i64 ((leavesL P).length : Nat)) ∧ LawG W0 w' b P T := (nodes_any wr b P T h.tab).mono fun _ _ ⟨h1, h2, h3⟩ => ⟨h1, h.turn h2.tab h3⟩
theorem lawu {W0 wr : World} {b : Nat} {P T : List Int} (i : Int) (h : LawG W0 wr b P T) :
    Calls Try.prog 23 #[.pointer (some ⟨b, 0, none⟩), .int .i64 i] wr fun e w' => ∃ A c, e = .returned (.slice A (upI P T i).length c) ∧ RdL w' (.slice A (upI P T i).length c) 1 encI (upI P T i) ∧ LawG W0 w' b P T :=
  (upT wr b P T i h.tab).mono fun _ _ ⟨v, h1, h2, h3, h4⟩ => by
    obtain ⟨A, c, rfl⟩ := own_form h2
    exact ⟨A, c, h1, own_rdl h2 (by have := upI_le h.tab.1 i; omega), h.turn h3 h4⟩
theorem lawru {W0 wr : World} {b : Nat} {vP vT : Value} {P T : List Int} (i : Int) (h : LawG W0 wr b P T) (ht : TopoAt wr vP vT P T) :
    Calls Try.prog 24 #[.agg #[vP, vT], .int .i64 i] wr fun e w' => ∃ A c, e = .returned (.slice A (upI P T i).length c) ∧ RdL w' (.slice A (upI P T i).length c) 1 encI (upI P T i) ∧ LawG W0 w' b P T ∧ Below wr.heap.size wr w' :=
  (rup_any wr vP vT P T i ht).mono fun _ _ ⟨v, h1, h2, h3⟩ => by
    obtain ⟨A, c, rfl⟩ := own_form h2
    exact ⟨A, c, h1, own_rdl h2 (by have := upI_le h.tab.1 i; omega), h.below h3, h3⟩
theorem lawrl {W0 wr : World} {b : Nat} {vP vT : Value} {P T : List Int} (h : LawG W0 wr b P T) (ht : TopoAt wr vP vT P T) :
    Calls Try.prog 27 #[.agg #[vP, vT]] wr fun e w' => ∃ A c, e = .returned (.slice A (leavesL P).length c) ∧ LawG W0 w' b P T :=
  (rleaves_any wr vP vT P T ht.p ht.t).mono fun _ _ ⟨v, h1, h2, h3⟩ => by
    rw [lvs_ok h.tab.1] at h2
    obtain ⟨A, c, rfl⟩ := own_form h2
    exact ⟨A, c, h1, h.below h3⟩
theorem lawt {W0 wr : World} {b : Nat} {P T : List Int} (h : LawG W0 wr b P T) :
    Calls Try.prog 29 #[.pointer (some ⟨b, 0, none⟩)] wr fun e w' => ∃ vP vT, e = .returned (.agg #[vP, vT]) ∧ RdL w' vP 1 encI P ∧ RdL w' vT 1 encI T ∧ LawG W0 w' b P T :=
  (topologyT wr b P T h.tab).mono fun _ _ ⟨vP, vT, h1, h2, h3, h4⟩ => ⟨vP, vT, h1, h2, h3, h.below h4⟩
set_option maxRecDepth 100000 in
set_option maxHeartbeats 1000000 in
theorem longS (w : World) (AP AT : Option Addr) (nP cP nT cT : Nat) (p0 p1 node : Int) (h : LongT nP nT) :
    Calls Try.prog 5 #[.agg #[.slice AP nP cP, .slice AT nT cT], .agg #[.int .i64 p0, .int .i64 p1], .int .i64 node] w fun e w' => e = .returned (.bool true) ∧ Below w.heap.size w w' := by
  have HF := Lib.hid (fun W => few_long W AP AT nP cP nT cT h)
  have HB0 := Lib.hid (((Below.refl w.heap.size w).alloc (Nat.le_refl _) (.cells #[.slice AP nP cP, .slice AT nT cT] 24)).alloc (by simp <;> omega) (.cells #[.int .i64 p0, .int .i64 p1] 36))
  clear h
  go_enter Try.func5, Try.ntmps5
  go_wp2_with fail
  refine (HF.out _).mono ?_
  rintro en w2 ⟨rfl, b2⟩
  have B2 := Lib.hid (HB0.out.trans (b2.mono HB0.out.size))
  clear b2
  go_wp2_with fail
  refine (awake07 _).mono ?_
  rintro en w3 ⟨rfl, b3⟩
  have B3 := Lib.hid (B2.out.trans (b3.mono B2.out.size))
  clear b3
  go_wp2
  go_ret
  exact ⟨rfl, B3.out⟩
/-- the boxes of PathSays -/
def box07 (w : World) (vP vT : Value) (p0 p1 : Int) : World := (w.alloc (.cells #[vP, vT] 24)).alloc (.cells #[.int .i64 p0, .int .i64 p1] 36)
theorem box07_below (w : World) (vP vT : Value) (p0 p1 : Int) : Below w.heap.size w (box07 w vP vT p0 p1) := ((Below.refl w.heap.size w).alloc (Nat.le_refl _) _).alloc (by simp <;> omega) _
theorem box07_size (w : World) (vP vT : Value) (p0 p1 : Int) : (box07 w vP vT p0 p1).heap.size = w.heap.size + 2 := by unfold box07; simp
theorem box07_cells (w : World) (vP vT : Value) (p0 p1 : Int) (W : World) (k : Below (box07 w vP vT p0 p1).heap.size (box07 w vP vT p0 p1) W) :
    W.cell? ⟨w.heap.size, 0, none⟩ = some vP ∧ W.cell? ⟨w.heap.size, 1, none⟩ = some vT ∧ W.cell? ⟨w.heap.size + 1, 0, none⟩ = some (.int .i64 p0) ∧ W.cell? ⟨w.heap.size + 1, 1, none⟩ = some (.int .i64 p1) := by
  have hs := box07_size w vP vT p0 p1
  have b1 : Blk W w.heap.size 24 #[vP, vT] := Blk.below (w := box07 w vP vT p0 p1) ((Blk.new w 24 #[vP, vT]).alloc (.cells #[.int .i64 p0, .int .i64 p1] 36)) k (by omega)
  have b2 : Blk W (w.heap.size + 1) 36 #[.int .i64 p0, .int .i64 p1] := Blk.below (w := box07 w vP vT p0 p1) (Blk.new' (w.alloc (.cells #[vP, vT] 24)) 36 #[.int .i64 p0, .int .i64 p1] (g := w.heap.size + 1) (by simp)) k (by omega)
  exact ⟨b1.cell 0, b1.cell 1, b2.cell 0, b2.cell 1⟩
set_option maxRecDepth 100000 in
set_option maxHeartbeats 1000000 in
theorem badS (w : World) (vP vT : Value) (P T : List Int) (p0 p1 node : Int) (hP : RdL w vP 1 encI P) (hT : RdL w vT 1 encI T) (hf : fewB P T = true) (hc : chkT P T ≠ 0) :
    Calls Try.prog 5 #[.agg #[vP, vT], .agg #[.int .i64 p0, .int .i64 p1], .int .i64 node] w fun e w' => e = .returned (.bool true) ∧ Below w.heap.size w w' := by
  have HN := Lib.hid (fun W (k : Below w.heap.size w W) => new_no W vP vT P T (hP.below k (Nat.le_refl _)) (hT.below k (Nat.le_refl _)) hc)
  have HK := Lib.hid (fun W (k : Below w.heap.size w W) => rcheck_any W vP vT P T (hP.below k (Nat.le_refl _)) (hT.below k (Nat.le_refl _)))
  have HF := Lib.hid (fun W (k : Below w.heap.size w W) => few_any W vP vT P T true hf (hP.below k (Nat.le_refl _)) (hT.below k (Nat.le_refl _)))
  have HS := Lib.hid (box07_cells w vP vT p0 p1)
  have HB := Lib.hid (box07_below w vP vT p0 p1)
  obtain ⟨W0, hW0⟩ : ∃ W0, W0 = box07 w vP vT p0 p1 := ⟨_, rfl⟩
  rw [← hW0] at HS HB
  obtain ⟨z, hz⟩ : ∃ z, z = chkT P T := ⟨_, rfl⟩
  rw [← hz] at hc HN HK
  have hz0 : (z != 0) = true := by simpa using hc
  obtain ⟨AP, cP, rfl, lP1, lP2⟩ := rdl_form hP
  obtain ⟨AT, cT, rfl, lT1, lT2⟩ := rdl_form hT
  obtain ⟨f0, f1, f2, f3⟩ := HS.out W0 (Below.refl _ _)
  clear hP hT hf hc hz
  unfold box07 at hW0
  go_enter Try.func5, Try.ntmps5
  go_upto_region 1 with fail
  rw [← hW0]
  clear hW0
  go_wp2_with fail
  refine (HF.out _ HB.out).mono ?_
  rintro en w1 ⟨rfl, b1⟩
  have K1 := Lib.hid b1
  have B1 := Lib.hid (HB.out.trans (b1.mono HB.out.size))
  obtain ⟨g0, g1, g2, g3⟩ := HS.out w1 b1
  clear b1 f0 f1 f2 f3
  go_wp2_with fail
  refine (HN.out _ B1.out).mono ?_
  rintro en w2 ⟨rfl, b2⟩
  have K2 := Lib.hid (K1.out.trans (b2.mono K1.out.size))
  have B2 := Lib.hid (B1.out.trans (b2.mono B1.out.size))
  obtain ⟨f0, f1, f2, f3⟩ := HS.out w2 K2.out
  clear b2 g0 g1 g2 g3
  go_wp2_with fail
  refine (HK.out _ B2.out).mono ?_
  rintro en w3 ⟨rfl, b3⟩
  have B3 := Lib.hid (B2.out.trans (b3.mono B2.out.size))
  clear b3 f0 f1 f2 f3
  go_wp2_with fail
  refine (awake07 _).mono ?_
  rintro en w4 ⟨rfl, b4⟩
  have B4 := Lib.hid (B3.out.trans (b4.mono B3.out.size))
  clear b4
  go_wp2
  go_ret
  exact ⟨rfl, B4.out⟩
set_option maxRecDepth 100000 in
set_option maxHeartbeats 32000000 in
theorem says07 (w : World) (vP vT : Value) (P T : List Int) (p0 p1 node : Int) (hP : RdL w vP 1 encI P) (hT : RdL w vT 1 encI T) (hf : fewB P T = true) (hc : chkT P T = 0) :
    Calls Try.prog 5 #[.agg #[vP, vT], .agg #[.int .i64 p0, .int .i64 p1], .int .i64 node] w fun e w' => e = .returned (.bool true) ∧ Below w.heap.size w w' := by
  have hm := many_lt (chk_ok hc).1
  have hll : (leavesL P).length ≤ 32 := by have := leavesTo_len P P.length; show (leavesTo P P.length).length ≤ _; omega
  have hul := upI_le hc p0
  have HN := Lib.hid (fun W (k : Below w.heap.size w W) => new_yes W vP vT P T (hP.below k (Nat.le_refl _)) (hT.below k (Nat.le_refl _)) hc)
  have HK := Lib.hid (fun W (k : Below w.heap.size w W) => rcheck_any W vP vT P T (hP.below k (Nat.le_refl _)) (hT.below k (Nat.le_refl _)))
  have HF := Lib.hid (fun W (k : Below w.heap.size w W) => few_any W vP vT P T true hf (hP.below k (Nat.le_refl _)) (hT.below k (Nat.le_refl _)))
  have HS := Lib.hid (box07_cells w vP vT p0 p1)
  have HB := Lib.hid (box07_below w vP vT p0 p1)
  have HM := Lib.hid hc
  obtain ⟨W0, hW0⟩ : ∃ W0, W0 = box07 w vP vT p0 p1 := ⟨_, rfl⟩
  rw [← hW0] at HS HB
  rw [hc] at HK
  have HT := Lib.hid (fun W b (h : LawG W0 W b P T) => (⟨hP.below (HB.out.trans (h.bel.mono HB.out.size)) (Nat.le_refl _), hT.below (HB.out.trans (h.bel.mono HB.out.size)) (Nat.le_refl _), hc⟩ : TopoAt W vP vT P T))
  obtain ⟨AP, cP, rfl, lP1, lP2⟩ := rdl_form hP
  obtain ⟨AT, cT, rfl, lT1, lT2⟩ := rdl_form hT
  obtain ⟨f0, f1, f2, f3⟩ := HS.out W0 (Below.refl _ _)
  clear hP hT hf hc
  unfold box07 at hW0
  go_enter Try.func5, Try.ntmps5
  go_upto_region 1 with fail
  rw [← hW0]
  clear hW0
  go_wp2_with fail
  refine (HF.out _ HB.out).mono ?_
  rintro en w1 ⟨rfl, b1⟩
  have K1 := Lib.hid b1
  have B1 := Lib.hid (HB.out.trans (b1.mono HB.out.size))
  obtain ⟨g0, g1, g2, g3⟩ := HS.out w1 b1
  clear b1 f0 f1 f2 f3
  go_wp2_with fail
  refine (HN.out _ B1.out).mono ?_
  rintro en w2 ⟨b, rfl, hlo, hz, b2⟩
  have hG2 : LawG W0 w2 b P T := ⟨⟨HM.out, .inl hz⟩, Nat.le_trans K1.out.size hlo, K1.out.trans (b2.mono K1.out.size)⟩
  have G2 := Lib.hid hG2
  obtain ⟨f0, f1, f2, f3⟩ := HS.out w2 hG2.bel
  have HK2 := Lib.hid (lawb hG2 (HK.out w2 (HB.out.trans (hG2.bel.mono HB.out.size))))
  clear b2 g0 g1 g2 g3 hG2 hz hlo
  go_wp2_with fail
  refine HK2.out.mono ?_
  rintro en w3 ⟨rfl, hG3⟩
  have G3 := Lib.hid hG3
  have HV : Hid (∀ W b, LawG W0 W b P T → W.cell? ⟨w.heap.size, 0, none⟩ = some (.slice AP P.length cP) ∧ W.cell? ⟨w.heap.size, 1, none⟩ = some (.slice AT T.length cT) ∧ W.cell? ⟨w.heap.size + 1, 0, none⟩ = some (.int .i64 p0) ∧ W.cell? ⟨w.heap.size + 1, 1, none⟩ = some (.int .i64 p1)) := Lib.hid fun W b h => HS.out W h.bel
  clear hG3 f0 f1 f2 f3
  go_wp2_with fail
  have GD := Lib.hid (fun n => G3.out.below (w' := w3.drewN n) (below_drewN (Below.refl _ _) n))
  obtain ⟨f0, f1, f2, f3⟩ := HV.out _ _ G3.out
  go_quiet (fail)
  have GF := Lib.hid (show LawG W0 (w3.drewN nq).drew b P T from (GD.out nq).below (Below.refl _ _).drew)
  have GE := Lib.hid (GD.out (nq + 1))
  go_wp2_with fail
  simp only [List.cons_append, List.nil_append, List.append_eq]
  go_region_held3 (fun W => W.cell? ⟨w.heap.size, 0, none⟩ = some (.slice AP P.length cP) ∧ W.cell? ⟨w.heap.size, 1, none⟩ = some (.slice AT T.length cT) ∧ W.cell? ⟨w.heap.size + 1, 0, none⟩ = some (.int .i64 p0) ∧ W.cell? ⟨w.heap.size + 1, 1, none⟩ = some (.int .i64 p1))
    (first | exact HV.out _ _ L22.out | exact HV.out _ _ L21.out | exact HV.out _ _ L20.out | exact HV.out _ _ L19.out | exact HV.out _ _ L18.out | exact HV.out _ _ L17.out | exact HV.out _ _ L16.out | exact HV.out _ _ L15.out | exact HV.out _ _ L14.out | exact HV.out _ _ L13.out | exact HV.out _ _ L12.out | exact HV.out _ _ L11.out | exact HV.out _ _ L10.out | exact HV.out _ _ L9.out | exact HV.out _ _ L8.out | exact HV.out _ _ L7.out | exact HV.out _ _ L6.out | exact HV.out _ _ L5.out | exact HV.out _ _ L4.out | exact HV.out _ _ GE.out | exact HV.out _ _ GF.out)
    (first
      | (go_at_call 17; go_loud (with_reducible refine (lawg GE.out (nodeT _ b P T p0 GE.out.tab)).mono ?_); rintro en w4 ⟨rfl, h4⟩; have L4 := Lib.hid h4; clear h4)
      | (go_at_call 19; go_loud (with_reducible refine (lawb L4.out (rnode_any _ _ _ P T p0 (HT.out _ _ L4.out))).mono ?_); rintro en w5 ⟨rfl, h5⟩; have L5 := Lib.hid h5; clear h5)
      | (go_at_call 16; go_loud (with_reducible refine (lawg L5.out (slotT _ b P T p0 L5.out.tab)).mono ?_); rintro en w6 ⟨rfl, h6⟩; have L6 := Lib.hid h6; clear h6)
      | (go_at_call 20; go_loud (with_reducible refine (lawb L6.out (rslot_any _ _ _ P T p0 (HT.out _ _ L6.out))).mono ?_); rintro en w7 ⟨rfl, h7⟩; have L7 := Lib.hid h7; clear h7)
      | (go_at_call 15; go_loud (with_reducible refine (lawg L7.out (matesT _ b P T node L7.out.tab)).mono ?_); rintro en w8 ⟨rfl, h8⟩; have L8 := Lib.hid h8; clear h8)
      | (go_at_call 21; go_loud (with_reducible refine (lawb L8.out (rmates_any _ _ _ P T node (HT.out _ _ L8.out))).mono ?_); rintro en w9 ⟨rfl, h9⟩; have L9 := Lib.hid h9; clear h9)
      | (go_at_call 23; go_loud (with_reducible refine (lawu p0 L9.out).mono ?_); rintro en w10 ⟨A10, c10, rfl, r10, h10⟩; have L10 := Lib.hid h10; have R10 := Lib.hid r10; clear h10 r10)
      | (go_at_call 24; go_loud (with_reducible refine (lawru p0 L10.out (HT.out _ _ L10.out)).mono ?_); rintro en w11 ⟨A11, c11, rfl, r11, h11, k11⟩; have L11 := Lib.hid h11; have R11 := Lib.hid (And.intro (R10.out.below k11 (Nat.le_refl _)) r11); clear h11 r11 k11)
      | (go_at_call 22; go_loud (with_reducible refine (lawb L11.out (sameIT _ _ _ _ R11.out.1 R11.out.2)).mono ?_); rintro en w12 ⟨rfl, h12⟩; have L12 := Lib.hid h12; clear h12)
      | (go_at_call 12; go_loud (with_reducible refine (lawg L12.out (farT _ b P T p0 p1 L12.out.tab)).mono ?_); rintro en w13 ⟨rfl, h13⟩; have L13 := Lib.hid h13; clear h13)
      | (go_at_call 25; go_loud (with_reducible refine (lawb L13.out (rfar_any _ _ _ P T p0 p1 (HT.out _ _ L13.out))).mono ?_); rintro en w14 ⟨rfl, h14⟩; have L14 := Lib.hid h14; clear h14)
      | (go_at_call 13; go_loud (with_reducible refine (lawg L14.out (meetT _ b P T p0 p1 L14.out.tab)).mono ?_); rintro en w15 ⟨rfl, h15⟩; have L15 := Lib.hid h15; clear h15)
      | (go_at_call 26; go_loud (with_reducible refine (lawb L15.out (rmeet_any _ _ _ P T p0 p1 (HT.out _ _ L15.out))).mono ?_); rintro en w16 ⟨rfl, h16⟩; have L16 := Lib.hid h16; clear h16)
      | (go_at_call 14; go_loud (with_reducible refine (lawn L16.out).mono ?_); rintro en w17 ⟨rfl, h17⟩; have L17 := Lib.hid h17; clear h17)
      | (go_at_call 27; go_loud (with_reducible refine (lawrl L17.out (HT.out _ _ L17.out)).mono ?_); rintro en w18 ⟨A18, c18, rfl, h18⟩; have L18 := Lib.hid h18; clear h18)
      | (go_at_call 11; go_loud (with_reducible refine (threads_any _ b P T L18.out.tab).mono ?_); rintro en w19 ⟨rfl, rfl⟩)
      | (go_at_call 29; go_loud (with_reducible refine (lawt L18.out).mono ?_); rintro en w20 ⟨vP2, vT2, rfl, rp2, rt2, h20⟩; have L20 := Lib.hid h20; have R20 := Lib.hid (And.intro rp2 rt2); clear h20 rp2 rt2)
      | (go_at_call 28; go_loud (with_reducible refine (lawb L20.out (topoSame _ _ _ _ _ P T R20.out.1 R20.out.2 (HT.out _ _ L20.out).p (HT.out _ _ L20.out).t)).mono ?_); rintro en w21 ⟨rfl, h21⟩; have L21 := Lib.hid h21; clear h21)
      | (go_at_call 10; go_loud (with_reducible refine (lawb L21.out (awake07 _)).mono ?_); rintro en w22 ⟨rfl, h22⟩; have L22 := Lib.hid h22; clear h22))
  all_goals
    have K := Lib.hid (HB.out.trans (L22.out.bel.mono HB.out.size))
    go_wp2
    go_ret
    exact ⟨rfl, K.out⟩
end Go.Proofs.Ytnlpghjlhnhkeaa
