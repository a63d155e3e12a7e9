/- Joined: Top9, Pa15N, Hl9. -/
import Derived.Deep.RegionHeld3
import Derived.Deep.DeepCutAuto
import Derived.Test.YtkdaiomjbkpedaaGreatMgHclhPassed1
import Derived.Test.YtkdaiomjbkpedaaGreatMgHclhPassed8
import Derived.Test.YtkdaiomjbkpedaaGreatMgHclhPassed13
section
/- Layer 6: the document's Leaves. -/
namespace Go.Proofs.YtkdaiomjbkpedaaGreat
open Go.RowKit

set_option maxRecDepth 100000 in
set_option maxHeartbeats 2000000 in
theorem rleaves_any (w : World) (vP vT : Value) (P T : List Int) (hP : RdL w vP 1 encI P) (hT : RdL w vT 1 encI T) :
    Calls Tryz.prog 47 #[.agg #[vP, vT]] w fun e w' => ∃ v, e = .returned v ∧ w'.ownsRow w.heap.size 3 1 v (lvsT P T).length ((lvsT P T).flatMap encI) ∧ Below w.heap.size w w' := by
  obtain ⟨i0, hi, hz0, hz1, hz2⟩ := info_parts Tryz.infoIn
  have HI := Lib.hid (And.intro hi (And.intro hz0 (And.intro hz1 hz2)))
  have hb0 : Below w.heap.size w (w.alloc (.cells #[vP, vT] 24)) := (Below.refl _ _).alloc (Nat.le_refl _) _
  have HC := Lib.hid (rcheck_any (w.alloc (.cells #[vP, vT] 24)) vP vT P T (hP.alloc _) (hT.alloc _))
  have HP := Lib.hid hP
  have HB0 := Lib.hid hb0
  obtain ⟨AP, cP, rfl, lP1, lP2⟩ := rdl_form hP
  obtain ⟨AT, cT, rfl, lT1, lT2⟩ := rdl_form hT
  clear hP hT hb0 hi hz0 hz1 hz2
  have hbx : w.heap.size < (w.alloc (.cells #[.slice AP P.length cP, .slice AT T.length cT] 24)).heap.size := by simp
  have HX := Lib.hid (show (w.alloc (.cells #[.slice AP P.length cP, .slice AT T.length cT] 24)).cell? ⟨w.heap.size, 0, none⟩ = some (.slice AP P.length cP) by simp [World.cell?_alloc_new])
  go_enter Tryz.func47, Tryz.ntmps47
  by_cases hc : chkT P T = 0
  · have HL := Lib.hid (show lvsT P T = leavesL P from by unfold lvsT; rw [if_pos hc])
    obtain ⟨hm, _, _, _⟩ := chk_ok hc
    have hml := many_lt hm
    rw [hc] at HC
    clear hc hm
    go_wp2_with fail
    refine HC.out.mono ?_
    rintro en w1 ⟨rfl, b1⟩
    have x0 := (b1.cell (p := ⟨w.heap.size, 0, none⟩) hbx).trans HX.out
    have hs1 := b1.size
    simp at hs1
    have HB1 := Lib.hid (HB0.out.trans (b1.mono HB0.out.size))
    have HP1 := Lib.hid (HP.out.below HB1.out (Nat.le_refl _))
    clear b1
    go_wp2
    go_loopw [3, 4] (fun o i wr => ∃ k : Nat, i = .int .i64 k ∧ k ≤ P.length ∧ wr.ownsRow w1.heap.size 3 1 o (leavesTo P k).length ((leavesTo P k).flatMap encI) ∧ Below w1.heap.size w1 wr) (fun _ i _ => P.length - (intOf i).toNat)
    case atStart => exact ⟨0, rfl, by omega, World.ownsRow_nil _ _ _ _, Below.refl _ _⟩
    case round =>
      obtain ⟨k, rfl, hk, hown, hbel⟩ := hrel
      obtain ⟨wq, rfl⟩ : ∃ wq : World, wq = wr := ⟨_, rfl⟩
      have y0 := (hbel.cell (p := ⟨w.heap.size, 0, none⟩) (show w.heap.size < w1.heap.size by omega)).trans x0
      have hll := leavesTo_len P k
      have hsz := hbel.size
      have HPr := Lib.hid (HP1.out.below hbel (Nat.le_refl _))
      have HO := Lib.hid (And.intro hown hbel)
      have HS := Lib.hid (leavesTo_succ P k)
      clear x0 hbel
      by_cases hlt : k < P.length
      · have HL := Lib.hid (rleaf_any wq _ P k HPr.out)
        obtain ⟨A9, c9, rfl⟩ := own_form hown
        cases hlf : leafB P k
        · rw [hlf] at HL
          have HM := Lib.hid hlf
          clear hlf hown
          go_wp2_with (go_at_call 84; refine HL.out.mono ?_; rintro e w' ⟨rfl, rfl⟩)
          go_roundw
          case rel => exact ⟨k + 1, by go_num, by omega, by rw [HS.out, HM.out]; exact HO.out.1, HO.out.2⟩
          case measure => simp [intOf]; omega
        · rw [hlf] at HL
          have HM := Lib.hid hlf
          clear hlf
          go_wp2_with (first
            | (go_at_call 84; refine HL.out.mono ?_; rintro e w' ⟨rfl, rfl⟩)
            | (at_builtin; refine wpList_append_own _ rfl _ _ 22 rfl w1.heap.size 3 i0 (.int .i64 0) 1 8 Tryz.underlying22 HI.out.1 HI.out.2.1 HI.out.2.2.1 HI.out.2.2.2 rfl (by decide) _ _ _ rfl (hown.alloc _) ⟨wq.heap.size, 0, none⟩ 1 1 (encI k) rfl rfl (cell_one_new _ _ _) (one_enc _) ?c3 ?c4 ?c5 ?_))
          case c3 => unfold maxLen; omega
          case c4 => omega
          case c5 => simp; omega
          intro v' w' hown' hgrow hnil
          have HN := Lib.hid (And.intro hown' hgrow)
          clear hown' hgrow hnil hown
          go_wp2
          go_roundw
          case rel => exact ⟨k + 1, by go_num, by omega, by rw [HS.out, HM.out]; simp only [if_true]; rw [flat_snoc, List.length_append]; exact HN.out.1, (HO.out.2.alloc hsz _).grown HN.out.2 (by simp; omega) (fun j hj => (HO.out.1.lt j hj).1)⟩
          case measure => simp [intOf]; omega
      · obtain rfl : k = P.length := by omega
        clear hown
        go_wp2
        go_ret
        exact ⟨_, rfl, by rw [HL.out]; exact own_lower HO.out.1 (by omega), HB1.out.trans (HO.out.2.mono (by omega))⟩
  · have HL := Lib.hid (show lvsT P T = [] from by unfold lvsT; rw [if_neg hc])
    obtain ⟨z, hz⟩ : ∃ z, z = chkT P T := ⟨_, rfl⟩
    rw [← hz] at HC hc
    have hz0 : (z != 0) = true := by simpa using hc
    clear hc hz
    go_wp2_with fail
    refine HC.out.mono ?_
    rintro en w1 ⟨rfl, b1⟩
    have HB1 := Lib.hid (HB0.out.trans (b1.mono HB0.out.size))
    clear b1
    go_wp2
    go_ret
    exact ⟨_, rfl, by rw [HL.out]; exact World.ownsRow_nil _ _ _ _, HB1.out⟩
end Go.Proofs.YtkdaiomjbkpedaaGreat
end
section
/- Layer 7, the document's: Has, Node. -/
namespace Go.Proofs.YtkdaiomjbkpedaaGreat
open Go.RowKit

/-- a topology's two lists -/
structure TopoAt (w : World) (vP vT : Value) (P T : List Int) : Prop where
  p : RdL w vP 1 encI P
  t : RdL w vT 1 encI T
  ok : chkT P T = 0
theorem TopoAt.below {w w' : World} {vP vT : Value} {P T : List Int} {B : Nat} (h : TopoAt w vP vT P T) (k : Below B w w') (hB : w.heap.size ≤ B) : TopoAt w' vP vT P T := ⟨h.p.below k hB, h.t.below k hB, h.ok⟩
theorem rhas_any (w : World) (vP vT : Value) (P T : List Int) (i : Int) (r : Bool) (hr : hasB T i = r) (h : TopoAt w vP vT P T) :
    Calls Tryz.prog 46 #[.agg #[vP, vT], .int .i64 i] w fun e w' => e = .returned (.bool r) ∧ Below w.heap.size w w' := by
  obtain ⟨AP, cP, rfl, lP1, lP2⟩ := rdl_form h.p
  obtain ⟨AT, cT, rfl, lT1, lT2⟩ := rdl_form h.t
  have HR := Lib.hid hr
  clear h hr
  by_cases h0 : 0 ≤ i
  · obtain ⟨k, rfl⟩ := Int.eq_ofNat_of_zero_le h0
    cases hk : decide (k < T.length)
    · have hE : Hid (false = r) := Lib.hid (by rw [← HR.out]; unfold hasB; symm; apply decide_eq_false; have := of_decide_eq_false hk; omega)
      have hk2 : decide ((k : Int) < (T.length : Int)) = false := by rw [← hk]; simp
      go_enter Tryz.func46, Tryz.ntmps46
      go_wp2
      go_ret
      exact ⟨ret_bool hE.out, (Below.refl _ _).alloc (Nat.le_refl _) _⟩
    · have hE : Hid (true = r) := Lib.hid (by rw [← HR.out]; unfold hasB; symm; apply decide_eq_true; have := of_decide_eq_true hk; omega)
      have hk2 : decide ((k : Int) < (T.length : Int)) = true := by rw [← hk]; simp
      go_enter Tryz.func46, Tryz.ntmps46
      go_wp2
      go_ret
      exact ⟨ret_bool hE.out, (Below.refl _ _).alloc (Nat.le_refl _) _⟩
  · have hE : Hid (false = r) := Lib.hid (by rw [← HR.out]; unfold hasB; symm; apply decide_eq_false; omega)
    go_enter Tryz.func46, Tryz.ntmps46
    go_wp2
    go_ret
    exact ⟨ret_bool hE.out, (Below.refl _ _).alloc (Nat.le_refl _) _⟩
theorem lvs_ok {P T : List Int} (h : chkT P T = 0) : lvsT P T = leavesL P := by unfold lvsT; rw [if_pos h]
set_option maxRecDepth 100000 in
set_option maxHeartbeats 1000000 in
theorem rnode_any (w : World) (vP vT : Value) (P T : List Int) (i : Int) (h : TopoAt w vP vT P T) :
    Calls Tryz.prog 16 #[.agg #[vP, vT], .int .i64 i] w fun e w' => e = .returned (.int .i64 (nodeI P T i)) ∧ Below w.heap.size w w' := by
  have hm := many_lt (chk_ok h.ok).1
  have hb0 : Below w.heap.size w (w.alloc (.cells #[vP, vT] 24)) := (Below.refl _ _).alloc (Nat.le_refl _) _
  have HB0 := Lib.hid hb0
  have hbx : w.heap.size < (w.alloc (.cells #[vP, vT] 24)).heap.size := by simp
  cases hh : hasB T i
  · have HH := Lib.hid (rhas_any (w.alloc (.cells #[vP, vT] 24)) vP vT P T i false hh (h.below hb0 (Nat.le_refl _)))
    have HE : Hid (nodeI P T i = -1) := Lib.hid (by unfold nodeI; rw [hh]; rfl)
    obtain ⟨AP, cP, rfl, lP1, lP2⟩ := rdl_form h.p
    obtain ⟨AT, cT, rfl, lT1, lT2⟩ := rdl_form h.t
    clear h hh hb0
    go_enter Tryz.func16, Tryz.ntmps16
    go_wp2_with fail
    refine HH.out.mono ?_
    rintro en w1 ⟨rfl, b1⟩
    have H1 := Lib.hid (HB0.out.trans (b1.mono HB0.out.size))
    clear b1
    go_wp2
    go_ret
    exact ⟨ret_int HE.out.symm, H1.out⟩
  · obtain ⟨ki, rfl, hki⟩ := has_nat hh
    obtain ⟨x, hx⟩ := getElem?_lt hki
    have HE : Hid (nodeI P T ki = idxI (leavesL P) x) := Lib.hid (by unfold nodeI; rw [hh]; simp [hx])
    have HM := Lib.hid (thr_mem (chk_ok h.ok).2.2.2 hx)
    have HH := Lib.hid (rhas_any (w.alloc (.cells #[vP, vT] 24)) vP vT P T ki true hh (h.below hb0 (Nat.le_refl _)))
    have HL := Lib.hid (fun W (k : Below w.heap.size w W) => rleaves_any W vP vT P T (h.p.below k (Nat.le_refl _)) (h.t.below k (Nat.le_refl _)))
    rw [lvs_ok h.ok] at HL
    have hll : (leavesL P).length ≤ 32 := by have := leavesTo_len P P.length; show (leavesTo P P.length).length ≤ _; omega
    have HT := Lib.hid h.t
    have HX := Lib.hid hx
    obtain ⟨AP, cP, rfl, lP1, lP2⟩ := rdl_form h.p
    obtain ⟨AT, cT, rfl, lT1, lT2⟩ := rdl_form h.t
    have HC := Lib.hid (show (w.alloc (.cells #[.slice AP P.length cP, .slice AT T.length cT] 24)).cell? ⟨w.heap.size, 0, none⟩ = some (.slice AP P.length cP) ∧ (w.alloc (.cells #[.slice AP P.length cP, .slice AT T.length cT] 24)).cell? ⟨w.heap.size, 1, none⟩ = some (.slice AT T.length cT) by simp [World.cell?_alloc_new])
    clear h hh hb0 hx
    go_enter Tryz.func16, Tryz.ntmps16
    go_wp2_with fail
    refine HH.out.mono ?_
    rintro en w1 ⟨rfl, b1⟩
    have H1 := Lib.hid (HB0.out.trans (b1.mono HB0.out.size))
    have HK1 := Lib.hid b1
    have x0 := (b1.cell (p := ⟨w.heap.size, 0, none⟩) hbx).trans HC.out.1
    have x1 := (b1.cell (p := ⟨w.heap.size, 1, none⟩) hbx).trans HC.out.2
    clear b1
    go_wp2_with fail
    refine (HL.out _ H1.out).mono ?_
    rintro en w2 ⟨v2, rfl, ho, b2⟩
    have H2 := Lib.hid (H1.out.trans (b2.mono H1.out.size))
    have hs1 := HK1.out.size
    simp at hs1
    have y1 := (b2.cell (p := ⟨w.heap.size, 1, none⟩) (show w.heap.size < w1.heap.size by omega)).trans x1
    have HR2 := Lib.hid (own_rdl ho (by omega))
    obtain ⟨A2, c2, rfl⟩ := own_form ho
    obtain ⟨bT, oT, hAT, _, hcT⟩ := rdl_int (HT.out.below H2.out (Nat.le_refl _)) (by omega)
    have z1 := hcT ki x HX.out
    subst hAT
    clear x0 x1 b2 ho hcT
    go_wp2
    go_loopw [6] (fun s wr => ∃ k n : Nat, s = .int .i64 k ∧ k ≤ (leavesL P).length ∧ wr = w2.drewN n ∧ x ∉ (leavesL P).take k) (fun s _ => (leavesL P).length - (intOf s).toNat)
    case atStart => exact ⟨0, 0, rfl, by omega, rfl, by simp⟩
    case round =>
      obtain ⟨k, n, rfl, hk, rfl, hn⟩ := hrel
      have HN := Lib.hid hn
      clear hn
      by_cases hlt : k < (leavesL P).length
      · obtain ⟨y, hy⟩ := getElem?_lt hlt
        obtain ⟨b3, o3, rfl, _, hc3⟩ := rdl_int HR2.out (by omega)
        have c0 := hc3 k y hy
        have HY := Lib.hid hy
        clear hc3 hy
        cases hxy : (y == x)
        · have hne : Hid (x ∉ (leavesL P).take (k + 1)) := Lib.hid (by
            rw [mem_take HY.out]
            rintro (h | h)
            · exact HN.out h
            · rw [h] at hxy; simp at hxy)
          go_wp2
          go_quiet (fail)
          go_wp2
          go_roundw
          case rel => exact ⟨k + 1, n + nq, by go_num, by omega, by first | rfl | rw [World.drewN_drewN], hne.out⟩
          case measure => simp [intOf]; omega
        · have hid : Hid (idxI (leavesL P) x = k) := Lib.hid (by
            have e := beq_iff_eq.1 hxy
            exact idx_hit (by rw [← e]; exact HY.out) HN.out)
          go_wp2
          go_quiet (fail)
          go_wp2
          go_ret
          exact ⟨ret_int (by rw [HE.out, hid.out]), by first | exact below_drewN H2.out _ | exact below_drewN (below_drewN H2.out _) _⟩
      · obtain rfl : k = (leavesL P).length := by omega
        have hF : False := HN.out (by rw [List.take_length]; exact HM.out)
        exact hF.elim
end Go.Proofs.YtkdaiomjbkpedaaGreat
end
section
/- Layer 29 (hclh): the walk of HclhPassed. -/
namespace Go.Proofs.YtkdaiomjbkpedaaGreat
open Go.RowKit

set_option maxRecDepth 100000 in
theorem longPs (w : World) (vP vT : Value) (n0 : Int) (A : Option Addr) (m c : Nat) (h1 : 150 < m) (h2 : m ≤ 9223372036854775807) :
    Calls Tryz.prog 3 #[.agg #[vP, vT], .int .u8 n0, .slice A m c] w fun e w' => e = .returned (.bool true) ∧ Below w.heap.size w w' := by
  have HB : Hid (∀ o : Obj, Below w.heap.size w (w.alloc o)) := Lib.hid fun o => (Below.refl _ _).alloc (Nat.le_refl _) o
  go_enter Tryz.func3, Tryz.ntmps3
  go_wp2_with fail
  refine (awake29 _).mono ?_
  rintro en w1 ⟨rfl, hb⟩
  go_wp2
  go_ret
  exact ⟨rfl, (HB.out _).trans (hb.mono (by simp))⟩
set_option maxRecDepth 100000 in
set_option maxHeartbeats 1000000 in
theorem noPs (w : World) (vP vT : Value) (n0 : Nat) (hs : SmNo w vP vT 8) (A : Option Addr) (m c : Nat) (hm : m ≤ 150) :
    Calls Tryz.prog 3 #[.agg #[vP, vT], .int .u8 n0, .slice A m c] w fun e w' => e = .returned (.bool true) ∧ Below w.heap.size w w' := by
  have HB0 := Lib.hid ((Below.refl w.heap.size w).alloc (Nat.le_refl _) (.cells #[vP, vT] 24))
  have hX : (w.alloc (.cells #[vP, vT] 24)).cell? ⟨w.heap.size, 0, none⟩ = some vP ∧ (w.alloc (.cells #[vP, vT] 24)).cell? ⟨w.heap.size, 1, none⟩ = some vT := by simp [World.cell?_alloc_new]
  have HX := Lib.hid hX
  have hbx : w.heap.size < (w.alloc (.cells #[vP, vT] 24)).heap.size := by simp
  have HM := Lib.hid (madeNo _ vP vT n0 (hs.below HB0.out))
  have HS := Lib.hid hs
  clear hs hX
  go_enter Tryz.func3, Tryz.ntmps3
  go_wp2_with fail
  refine HM.out.mono ?_
  rintro en w1 ⟨rfl, b1⟩
  have f0 : w1.cell? ⟨w.heap.size, 0, none⟩ = some vP := (b1.cell (p := ⟨w.heap.size, 0, none⟩) hbx).trans HX.out.1
  have f1 : w1.cell? ⟨w.heap.size, 1, none⟩ = some vT := (b1.cell (p := ⟨w.heap.size, 1, none⟩) hbx).trans HX.out.2
  have HB1 := Lib.hid (HB0.out.trans (b1.mono HB0.out.size))
  clear b1 hbx
  go_wp2_with fail
  refine (HS.out _ HB1.out).mono ?_
  rintro en w2 ⟨rfl, b2⟩
  have HB2 := Lib.hid (HB1.out.trans (b2.mono HB1.out.size))
  clear b2
  go_wp2_with fail
  refine (awake29 _).mono ?_
  rintro en w3 ⟨rfl, b3⟩
  have HB3 := Lib.hid (HB2.out.trans (b3.mono HB2.out.size))
  clear b3
  go_wp2
  go_ret
  exact ⟨rfl, HB3.out⟩
/-- the lock beside the row of those who were passed -/
structure PsW (w0 w : World) (l a g q b u lo hi : Nat) (d : Int) (P T : List Int) (h : Hc) (N : Nat) (G : Nat → List Nat) (pb : Nat) (L : List Int) : Prop where
  st : HSt w0 w l a g q b u lo hi d P T h N G
  blk : Blk w pb 3 (L.map fun x => Value.int .i64 x).toArray
  np : pb ∉ [l, a, g, q, u]
  nb : hi ≤ pb
  nw : w0.heap.size ≤ pb
section
variable {w0 w w' : World} {l a g q b u lo hi : Nat} {d : Int} {P T : List Int} {h h' : Hc} {N M : Nat} {G G' : Nat → List Nat} {pb : Nat} {L : List Int}
/-- other blocks turn -/
theorem HSt.other {S : List Nat} (s : HSt w0 w l a g q b u lo hi d P T h N G) (k : Turns S w w') (h1 : ∀ x ∈ S, x ∉ [l, a, g, q, u]) (h2 : ∀ x ∈ S, hi ≤ x) (h3 : ∀ x ∈ S, w0.heap.size ≤ x) : HSt w0 w' l a g q b u lo hi d P T h N G := by
  have e : ∀ y ∈ [l, a, g, q, u], y ∉ S := fun y hy hs => h1 y hs hy
  have i := s.is
  refine ⟨⟨i.ar.turns k (e a (by simp)) (e g (by simp)), k.blk i.lk (e l (by simp)), i.sp.turns k (e q (by simp)), ?_, i.tab.keep (fun j hj1 hj2 => k.block j (by have := i.hs; omega) fun hm => ?_) (Nat.le_trans i.hs k.size), i.sl, Nat.le_trans i.hs k.size, i.nd, i.out⟩, s.ok, s.bel.trans (k.below h3 s.bel.size), s.hl, s.d0⟩
  · exact i.tu.turns k (e u (by simp))
  · have := h2 j hm; omega
theorem PsW.below (s : PsW w0 w l a g q b u lo hi d P T h N G pb L) (k : Below w.heap.size w w') : PsW w0 w' l a g q b u lo hi d P T h N G pb L :=
  ⟨s.st.below k, (Turns.of_below (S := []) k).blk s.blk (by simp), s.np, s.nb, s.nw⟩
theorem PsW.next (s : PsW w0 w l a g q b u lo hi d P T h N G pb L) (k : Turns [l, a, g, q, u] w w') (hs : HSt w0 w' l a g q b u lo hi d P T h' M G') : PsW w0 w' l a g q b u lo hi d P T h' M G' pb L :=
  ⟨hs, k.blk s.blk s.np, s.np, s.nb, s.nw⟩
/-- an act of a lock of one's own, and what turns -/
theorem doSt2 (s : HSt w0 w l a g q b u lo hi d P T h N G) (hN : N < 1000000) (k i : Int) :
    Calls Tryz.prog 15 #[.pointer (some ⟨l, 0, none⟩), actV2 k i] w fun e w' => ∃ c h' G', e = .returned (.bool c) ∧ HSt w0 w' l a g q b u lo hi d P T h' (N + 1) G' ∧ ActR T.length (nodeN P T) h.S h'.S i (G 0) (G' 0) ∧ Turns [l, a, g, q, u] w w' := by
  refine (doHl s.is (s.ok.cond hN s.d0.2) k i).mono ?_
  rintro e w' ⟨he, hi, t⟩
  obtain ⟨G', ho, hr, h1, h2⟩ := s.ok.act hN k i
  exact ⟨_, _, G', he, s.next t hi ho, hr, t.mono (by simp)⟩
theorem PsW.at (s : PsW w0 w l a g q b u lo hi d P T h N G pb L) {i : Nat} (hi : i < L.length) : w.cell? ⟨pb, i, none⟩ = some (.int .i64 (L.getD i 0)) := by
  rw [s.blk.cell i]
  simp [List.getD_eq_getElem?_getD, List.getElem?_eq_getElem hi]
theorem PsW.put (s : PsW w0 w l a g q b u lo hi d P T h N G pb L) (i : Nat) (x : Int) : PsW w0 (w.setCell ⟨pb, i, none⟩ (.int .i64 x)) l a g q b u lo hi d P T h N G pb (L.set i x) := by
  have k : Turns [pb] w (w.setCell ⟨pb, i, none⟩ (.int .i64 x)) := (Turns.refl _ _).setCell (.inl (by simp)) _
  refine ⟨s.st.other k (by simpa using s.np) (by simpa using s.nb) (by simpa using s.nw), ?_, s.np, s.nb, s.nw⟩
  have := s.blk.set_ i (.int .i64 x)
  rw [show (L.map fun x => Value.int .i64 x).toArray.setIfInBounds i (.int .i64 x) = ((L.set i x).map fun x => Value.int .i64 x).toArray by simp] at this
  exact this
end
theorem Tryz.infoInH : (Tryz.prog.info? 3).map (fun i => (i.zero, i.size, i.bytes)) = some (some (.int .i64 0), 1, 8) := by kernel_rfl
/-- the two nodes are one, when a thread goes into the row of its node -/
theorem node_row {P T : List Int} {t i : Nat} (ht : t < T.length) (hi : i < T.length) (e : nodeN P T t = nodeN P T i) (hc : chkT P T = 0) : nodeI P T (t : Int) = nodeI P T (i : Int) := by
  have key : ∀ j : Nat, j < T.length → nodeI P T (j : Int) = ((nodeN P T j : Nat) : Int) := fun j hj => by
    have hm : T.getD j 0 ∈ leavesL P := thr_mem (chk_ok hc).2.2.2 (i := j) (by rw [List.getD_eq_getElem?_getD, List.getElem?_eq_getElem hj]; rfl)
    have h0 := (idx_nonneg (leavesL P) (T.getD j 0)).1.2 hm
    unfold nodeI nodeN hasB
    rw [if_pos (decide_eq_true (by omega)), Int.toNat_natCast]
    omega
  rw [key t ht, key i hi, e]
set_option maxRecDepth 100000 in
set_option maxHeartbeats 16000000 in
theorem passed29 (w : World) (vP : Value) (AT : Option Addr) (cT : Nat) (P T : List Int) (hP : RdL w vP 1 encI P) (hT : RdL w (.slice AT T.length cT) 1 encI T) (n0 : Nat) (hn0 : n0 < 256) (hs : smallB P T 8 = true) (v : Value) (ls : List (Int × Int)) (h : RdL w v 2 encP ls) (hl150 : ls.length ≤ 150) :
    Calls Tryz.prog 3 #[.agg #[vP, .slice AT T.length cT], .int .u8 n0, v] w fun e w' => e = .returned (.bool true) ∧ Below w.heap.size w w' := by
  obtain ⟨A, cap, rfl, l1, l2, hr⟩ := h
  have HR := Lib.hid hr
  have hT8 : T.length ≤ 8 := by have := (of_decide_eq_true hs).2; omega
  obtain ⟨NN, hNN⟩ : ∃ NN, NN = T.length * T.length := ⟨_, rfl⟩
  have hNN64 : NN ≤ 64 := by rw [hNN]; exact Nat.mul_le_mul hT8 hT8
  have x0 : IntKind.i64.wrap ((T.length : Int) * (T.length : Int)) = (NN : Int) := by
    rw [show ((T.length : Int) * (T.length : Int)) = (NN : Int) by rw [hNN]; simp]
    exact IntWalk.i64_in _ (by omega)
  have HNN := Lib.hid hNN
  have HTA := Lib.hid (TopoAt.mk hP hT (of_decide_eq_true hs).1)
  have HB0 := Lib.hid ((Below.refl w.heap.size w).alloc (Nat.le_refl _) (.cells #[vP, .slice AT T.length cT] 24))
  have hX : (w.alloc (.cells #[vP, .slice AT T.length cT] 24)).cell? ⟨w.heap.size, 0, none⟩ = some vP ∧ (w.alloc (.cells #[vP, .slice AT T.length cT] 24)).cell? ⟨w.heap.size, 1, none⟩ = some (.slice AT T.length cT) := by simp [World.cell?_alloc_new]
  have HX := Lib.hid hX
  have hbx : w.heap.size < (w.alloc (.cells #[vP, .slice AT T.length cT] 24)).heap.size := by simp
  have HM := Lib.hid (madeYes _ vP _ P T (hP.alloc (.cells #[vP, .slice AT T.length cT] 24)) (hT.alloc _) n0 hn0 hs)
  obtain ⟨i0, i0a, i0b, i0c, i0d⟩ := info_parts Tryz.infoInH
  clear hr hX hP hT hs hNN
  go_enter Tryz.func3, Tryz.ntmps3
  go_wp2_with fail
  refine HM.out.mono ?_
  rintro en w1 ⟨l, a, g, q, b, u, lo, hi, d, h0, G0, rfl, hS, hz0, hG0⟩
  obtain ⟨w0, hw0⟩ : ∃ w0, w0 = w.alloc (.cells #[vP, .slice AT T.length cT] 24) := ⟨_, rfl⟩
  rw [← hw0] at hS hbx HX HB0
  have H0 := Lib.hid hS
  have hw0s : w.heap.size ≤ w0.heap.size := HB0.out.size
  have f1 : w1.cell? ⟨w.heap.size, 1, none⟩ = some (.slice AT T.length cT) := (hS.bel.cell (p := ⟨w.heap.size, 1, none⟩) hbx).trans HX.out.2
  have HZ := Lib.hid (And.intro hz0 hG0)
  clear hS HM hw0 hz0 hG0
  go_wp2_with (refine wpList_make_full _ rfl (.tmp 43) (.tmp 43) 22 rfl w1.heap.size 3 i0 (.int .i64 0) 1 Tryz.underlying22 i0a i0b i0c .i64 .i64 NN NN NN rfl rfl rfl rfl ?b2 ?b3 (Nat.le_refl _) ?_)
  case b2 => rw [i0d]; omega
  case b3 => unfold maxLen; omega
  intro w2 hown hg
  have hbk : Blk w2 w1.heap.size 3 ((List.replicate NN (0 : Int)).map fun x => Value.int .i64 x).toArray := by
    have := own_blk hown
    have e : (madeCells #[Value.int .i64 0] NN).toList = List.replicate NN (.int .i64 0) := made_const1 _ _
    rw [e] at this
    simpa using this
  have t2 : Turns [] w1 w2 := Turns.of_below ((Below.refl w1.heap.size w1).grown hg (Nat.le_refl _) (fun j hj => by cases hj))
  obtain ⟨pb, hpb⟩ : ∃ pb, pb = w1.heap.size := ⟨_, rfl⟩
  have HPS : Hid (PsW w0 w2 l a g q b u lo hi d P T h0 0 G0 pb (List.replicate NN 0)) := Lib.hid (by
    have i := H0.out.is
    have e1 := i.lk.lt
    have e2 := i.ar.blk.lt
    have e3 := i.ar.wds.lt
    have e4 : q < w1.heap.size := Blk.lt i.sp
    have e5 := i.tu.blk.lt
    rw [hpb]
    exact ⟨H0.out.other t2 (by simp) (by simp) (by simp), hbk, by simp; omega, i.hs, H0.out.bel.size⟩)
  rw [← hpb]
  clear hown hg hbk t2 f1 H0 hpb
  go_wp2
  go_loopw [12] (fun i wr => ∃ (k : Nat) (L : List Int), i = .int .i64 k ∧ k ≤ NN ∧ PsW w0 wr l a g q b u lo hi d P T h0 0 G0 pb L ∧ L.length = NN ∧ ∀ j, j < k → L.getD j 0 = -1) (fun i _ => NN - (intOf i).toNat)
  case atStart => exact ⟨0, _, rfl, by omega, HPS.out, by simp, fun j hj => by omega⟩
  case round =>
    clear HPS
    obtain ⟨k, L, rfl, hk, hW, hL, hall⟩ := hrel
    obtain ⟨wo, rfl⟩ : ∃ wo : World, wo = wr := ⟨_, rfl⟩
    by_cases hlt : k < NN
    · have c0 := hW.at (i := k) (by omega)
      have z0 := hW.blk.free k
      have HN := Lib.hid (show PsW w0 (wo.setCell ⟨pb, k, none⟩ (.int .i64 (-1))) l a g q b u lo hi d P T h0 0 G0 pb (L.set k (-1)) ∧ (L.set k (-1)).length = NN ∧ ∀ j, j < k + 1 → (L.set k (-1)).getD j 0 = -1 from ⟨hW.put k (-1), by simp [hL], fun j hj => by
        by_cases e : j = k
        · subst e; exact getD_set_eq _ _ _ (by omega)
        · rw [getD_set_ne _ _ _ (fun e' => e e'.symm)]; exact hall j (by omega)⟩)
      clear hW hL hall
      go_wp2
      go_roundw
      case rel => exact ⟨k + 1, _, by go_num, by omega, HN.out⟩
      case measure => simp [intOf]; omega
    · obtain rfl : NN = k := by omega
      have HPS := Lib.hid hW
      have HF := Lib.hid (show Fl T.length L (fun _ _ => -1) from ⟨hL.trans HNN.out, fun x y hx hy => hall _ (by rw [HNN.out]; exact flat_lt hx hy)⟩)
      have HPI := Lib.hid (show PInv T.length h0.S (G0 0) (fun _ _ => -1) from fun _ _ _ _ h => absurd h (by show ¬ (0 : Int) ≤ -1; decide))
      clear hW hL hall
      go_wp2
      go_loopw [13] (fun i wr => ∃ (k : Nat) (h : Hc) (G : Nat → List Nat) (L : List Int) (Pf : Nat → Nat → Int), i = .int .i64 k ∧ k ≤ ls.length ∧ PsW w0 wr l a g q b u lo hi d P T h k G pb L ∧ Fl T.length L Pf ∧ PInv T.length h.S (G 0) Pf) (fun i _ => ls.length - (intOf i).toNat)
      case atStart => exact ⟨0, h0, G0, L, _, rfl, by omega, HPS.out, HF.out, HPI.out⟩
      case round =>
        clear HPS HF HPI
        obtain ⟨k, h, G, L, Pf, rfl, hk, hW, hF, hI⟩ := hrel
        obtain ⟨wo, rfl⟩ : ∃ wo : World, wo = wr := ⟨_, rfl⟩
        have HW := Lib.hid hW
        have HFI := Lib.hid (And.intro hF hI)
        clear hW hF hI
        by_cases hlt : k < ls.length
        · obtain ⟨bl, off, rfl, hbl, hc⟩ := HR.out (by omega)
          obtain ⟨⟨kd, ii⟩, hx⟩ := getElem?_lt hlt
          have HC : Hid (∀ W, Below w0.heap.size w0 W → (W.cell? ⟨bl, off + k * 2, none⟩ = some (.int .i64 kd) ∧ W.cell? ⟨bl, off + k * 2 + 1, none⟩ = some (.int .i64 ii)) ∧ W.cell? ⟨w.heap.size, 0, none⟩ = some vP ∧ W.cell? ⟨w.heap.size, 1, none⟩ = some (.slice AT T.length cT)) := Lib.hid fun W hW =>
            ⟨⟨((HB0.out.trans (hW.mono hw0s)).cell (p := ⟨bl, off + k * 2 + 0, none⟩) hbl).trans (hc k _ hx 0 _ rfl), ((HB0.out.trans (hW.mono hw0s)).cell (p := ⟨bl, off + k * 2 + 1, none⟩) hbl).trans (hc k _ hx 1 _ rfl)⟩, (hW.cell (p := ⟨w.heap.size, 0, none⟩) hbx).trans HX.out.1, (hW.cell (p := ⟨w.heap.size, 1, none⟩) hbx).trans HX.out.2⟩
          obtain ⟨p, hp⟩ : ∃ p, p = getS h.S ii := ⟨_, rfl⟩
          have HP := Lib.hid hp
          obtain ⟨⟨y0, y1⟩, y2, y3⟩ := HC.out _ HW.out.st.bel
          clear hc hx hp
          go_wp2_with fail
          refine (spotH HW.out.st.is ii).mono ?_
          rintro en w2 ⟨rfl, b2⟩
          rw [← HP.out]
          unfold spotV
          have H2 := Lib.hid (HW.out.below b2)
          clear b2 y0 y1 y2 y3
          obtain ⟨⟨y0, y1⟩, y2, y3⟩ := HC.out _ H2.out.st.bel
          go_upto_region 17 with fail
          obtain ⟨w3, hw3⟩ : ∃ w3, w3 = w2.alloc (.cells #[.int .i64 p.pc, .int .i64 p.a, .int .i64 p.b, .int .i64 p.c] 35) := ⟨_, rfl⟩
          obtain ⟨wb, hwb⟩ : ∃ wb, wb = w2.heap.size := ⟨_, rfl⟩
          have H3 := Lib.hid (show PsW w0 w3 l a g q b u lo hi d P T h k G pb L ∧ Blk w3 wb 35 #[.int .i64 p.pc, .int .i64 p.a, .int .i64 p.b, .int .i64 p.c] ∧ wb ∉ [l, a, g, q, u] ∧ w0.heap.size ≤ wb ∧ wb ≠ pb from by
            have i := H2.out.st.is
            have e1 := i.lk.lt
            have e2 := i.ar.blk.lt
            have e3 := i.ar.wds.lt
            have e4 : q < w2.heap.size := Blk.lt i.sp
            have e5 := i.tu.blk.lt
            have e6 := H2.out.blk.lt
            rw [hw3, hwb]
            exact ⟨H2.out.below ((Below.refl _ _).alloc (Nat.le_refl _) _), Blk.new _ _ _, by simp; omega, H2.out.st.bel.size, by omega⟩)
          rw [← hw3, ← hwb]
          clear hw3 hwb y0 y1 y2 y3
          obtain ⟨⟨y0, y1⟩, y2, y3⟩ := HC.out _ H3.out.1.st.bel
          have HD := Lib.hid (doSt2 H3.out.1.st (by omega) kd ii)
          go_wp2_with fail
          refine HD.out.mono ?_
          rintro en w4 ⟨c, h', G', rfl, s4, ar4, t4⟩
          have H4 := Lib.hid (And.intro (H3.out.1.next t4 s4) (And.intro (t4.blk H3.out.2.1 H3.out.2.2.1) ar4))
          obtain ⟨p', hp'⟩ : ∃ p, p = getS h'.S ii := ⟨_, rfl⟩
          have HP' := Lib.hid hp'
          clear s4 ar4 t4 hp' HD y0 y1 y2 y3
          obtain ⟨⟨y0, y1⟩, y2, y3⟩ := HC.out _ H4.out.1.st.bel
          go_wp2_with fail
          refine (spotH H4.out.1.st.is ii).mono ?_
          rintro en w5 ⟨rfl, b5⟩
          rw [← HP'.out]
          unfold spotV
          have H5 := Lib.hid (And.intro (H4.out.1.below b5) (And.intro ((Turns.of_below (S := []) b5).blk H4.out.2.1 (by simp)) H4.out.2.2))
          clear b5 y0 y1 y2 y3
          go_upto_region 19 with fail
          obtain ⟨w6, hw6⟩ : ∃ w6, w6 = w5.alloc (.cells #[.int .i64 p'.pc, .int .i64 p'.a, .int .i64 p'.b, .int .i64 p'.c] 35) := ⟨_, rfl⟩
          obtain ⟨nb, hnb⟩ : ∃ nb, nb = w5.heap.size := ⟨_, rfl⟩
          have H6 := Lib.hid (show PsW w0 w6 l a g q b u lo hi d P T h' (k + 1) G' pb L ∧ Blk w6 wb 35 #[.int .i64 p.pc, .int .i64 p.a, .int .i64 p.b, .int .i64 p.c] ∧ Blk w6 nb 35 #[.int .i64 p'.pc, .int .i64 p'.a, .int .i64 p'.b, .int .i64 p'.c] ∧ ActR T.length (nodeN P T) h.S h'.S ii (G 0) (G' 0) ∧ nb ∉ [l, a, g, q, u] ∧ w0.heap.size ≤ nb ∧ nb ≠ pb ∧ nb ≠ wb from by
            have i := H5.out.1.st.is
            have e1 := i.lk.lt
            have e2 := i.ar.blk.lt
            have e3 := i.ar.wds.lt
            have e4 : q < w5.heap.size := Blk.lt i.sp
            have e5 := i.tu.blk.lt
            have e6 := H5.out.1.blk.lt
            have e7 := H5.out.2.1.lt
            rw [hw6, hnb]
            exact ⟨H5.out.1.below ((Below.refl _ _).alloc (Nat.le_refl _) _), H5.out.2.1.alloc _, Blk.new _ _ _, H5.out.2.2, by simp; omega, H5.out.1.st.bel.size, by omega, by omega⟩)
          rw [← hw6, ← hnb]
          clear hw6 hnb
          -- what the act came to
          have hSl' : h'.S.length = T.length := H6.out.1.st.is.sl
          have hSl0 : h.S.length = T.length := HW.out.st.is.sl
          obtain ⟨j0, hJ⟩ : ∃ j0, (p' = p ∧ h'.S = h.S ∧ G' 0 = G 0) ∨ (j0 < T.length ∧ ii = (j0 : Int) ∧ p = sv h.S j0 ∧ h'.S = h.S.set j0 p' ∧ StA T.length (nodeN P T) p p' j0 (G 0) (G' 0)) := by
            rcases H6.out.2.2.2.1 with ⟨e1, e2⟩ | ⟨j, q', hj, hI, hS, st⟩
            · exact ⟨0, .inl ⟨by rw [HP'.out, HP.out, e1], e1, e2⟩⟩
            · have e1 : p = sv h.S j := by rw [HP.out, hI]; exact getS_nat (by omega)
              have e2 : p' = q' := by
                rw [HP'.out, hI, getS_nat (by omega), hS]
                exact sv_eq (by omega)
              exact ⟨j, .inr ⟨hj, hI, e1, by rw [e2]; exact hS, by rw [e1, e2]; exact st⟩⟩
          have HJ := Lib.hid hJ
          have HBd := Lib.hid (show ∀ W, Below w6.heap.size w6 W → W.cell? ⟨w.heap.size, 0, none⟩ = some vP ∧ W.cell? ⟨w.heap.size, 1, none⟩ = some (.slice AT T.length cT) ∧ W.cell? ⟨wb, 0, none⟩ = some (.int .i64 p.pc) ∧ W.cell? ⟨nb, 0, none⟩ = some (.int .i64 p'.pc) ∧ W.cell? ⟨nb, 1, none⟩ = some (.int .i64 p'.a) from fun W b => by
            have B := H6.out.1.st.bel.trans (b.mono H6.out.1.st.bel.size)
            have o := HC.out W B
            have e1 := (Turns.of_below (S := []) b).blk H6.out.2.1 (by simp)
            have e2 := (Turns.of_below (S := []) b).blk H6.out.2.2.1 (by simp)
            exact ⟨o.2.1, o.2.2, e1.cell 0, e2.cell 0, e2.cell 1⟩)
          clear hJ
          obtain ⟨f0, f1, d0, n0c, n1c⟩ := HBd.out _ (Below.refl _ _)
          go_cut [96] (fun s96 wx => s96 = .bool false ∧ Below w6.heap.size w6 wx)
          case first =>
            by_cases c1 : p.pc = 1
            · have t1 : (p.pc == 1) = true := by simpa using c1
              by_cases c5 : p'.pc = 5
              · have t5 : (p'.pc == 5) = true := by simpa using c5
                obtain ⟨tt, av, ht0, ht1, hav1, hava, hnn⟩ : ∃ (tt : Int) (av : Int), 0 ≤ tt ∧ tt ≤ 8 ∧ av.tmod 65536 = tt + 1 ∧ p'.a = av ∧ nodeI P T tt = nodeI P T ii := by
                  rcases HJ.out with ⟨e1, _⟩ | ⟨hj, hI, e1, e2, st⟩
                  · rw [e1] at c5; omega
                  · obtain ⟨t, d, h1, h2, h3, h4⟩ := st.row c1 c5
                    unfold tokH at h4
                    refine ⟨(t : Int), _, by omega, by omega, by rw [Int.tmod_eq_emod_of_nonneg (by omega)]; omega, h4, ?_⟩
                    rw [hI]
                    exact node_row h1 hj h2 HTA.out.ok
                rw [hava] at n1c
                have HA := Lib.hid hava
                obtain ⟨nv, hnv⟩ : ∃ nv, nv = nodeI P T ii := ⟨_, rfl⟩
                rw [← hnv] at hnn
                have hTB : Hid (∀ W, Below w6.heap.size w6 W → TopoAt W vP (.slice AT T.length cT) P T) := Lib.hid fun W b => HTA.out.below (HB0.out.trans ((H6.out.1.st.bel.trans (b.mono H6.out.1.st.bel.size)).mono hw0s)) (Nat.le_refl _)
                have HN1 := fun W (b : Below w6.heap.size w6 W) => rnode_any W vP _ P T tt (hTB.out W b)
                rw [hnn] at HN1
                have HN2 := fun W (b : Below w6.heap.size w6 W) => rnode_any W vP _ P T ii (hTB.out W b)
                rw [← hnv] at HN2
                have HN1 := Lib.hid HN1
                have HN2 := Lib.hid HN2
                have Q1 := Lib.hid (show Below w6.heap.size w6 w6.drew from (Below.refl _ _).drew)
                have HBd' := Lib.hid (show ∀ W, Below w6.heap.size w6 W → W.cell? ⟨w.heap.size, 0, none⟩ = some vP ∧ W.cell? ⟨w.heap.size, 1, none⟩ = some (.slice AT T.length cT) ∧ W.cell? ⟨wb, 0, none⟩ = some (.int .i64 p.pc) ∧ W.cell? ⟨nb, 0, none⟩ = some (.int .i64 p'.pc) ∧ W.cell? ⟨nb, 1, none⟩ = some (.int .i64 av) from fun W b => by rw [← HA.out]; exact HBd.out W b)
                have x7 : IntKind.i64.wrap tt = tt := IntWalk.i64_in _ (by omega)
                clear c1 c5 hnv hava hnn
                go_wp2_with fail
                go_region_held3 (fun W => W.cell? ⟨w.heap.size, 0, none⟩ = some vP ∧ W.cell? ⟨w.heap.size, 1, none⟩ = some (.slice AT T.length cT) ∧ W.cell? ⟨wb, 0, none⟩ = some (.int .i64 p.pc) ∧ W.cell? ⟨nb, 0, none⟩ = some (.int .i64 p'.pc) ∧ W.cell? ⟨nb, 1, none⟩ = some (.int .i64 av))
                  (first | with_reducible exact HBd'.out _ Q1.out | with_reducible exact HBd'.out _ Q2.out | with_reducible exact HBd'.out _ Q3.out)
                  (first
                    | (go_at_call 16; go_loud (with_reducible refine (HN1.out _ Q1.out).mono ?_); rintro en w7 ⟨rfl, b7⟩; have Q2 := Lib.hid (Q1.out.trans (b7.mono Q1.out.size)); clear b7)
                    | (go_at_call 16; go_loud (with_reducible refine (HN2.out _ Q2.out).mono ?_); rintro en w8 ⟨rfl, b8⟩; have Q3 := Lib.hid (Q2.out.trans (b8.mono Q2.out.size)); clear b8))
                all_goals
                  go_wp2
                  go_meet
                  case rel => exact ⟨rfl, Q3.out⟩
              · have t5 : (p'.pc == 5) = false := by simpa using c5
                clear c1 c5
                go_wp2
                go_quiet (fail)
                go_wp2
                go_meet
                case rel => exact ⟨rfl, below_drewN (Below.refl _ _) _⟩
            · have t1 : (p.pc == 1) = false := by simpa using c1
              clear c1
              go_wp2
              go_quiet (fail)
              go_wp2
              go_meet
              case rel => exact ⟨rfl, below_drewN (Below.refl _ _) _⟩
          case rest =>
            obtain ⟨rfl, bx⟩ := hcut
            obtain ⟨wx, rfl⟩ : ∃ wx : World, wx = wc := ⟨_, rfl⟩
            have H7 := Lib.hid (show PsW w0 wx l a g q b u lo hi d P T h' (k + 1) G' pb L ∧ Blk wx wb 35 #[.int .i64 p.pc, .int .i64 p.a, .int .i64 p.b, .int .i64 p.c] ∧ Blk wx nb 35 #[.int .i64 p'.pc, .int .i64 p'.a, .int .i64 p'.b, .int .i64 p'.c] ∧ nb ≠ pb ∧ wb ≠ pb from
              ⟨H6.out.1.below bx, (Turns.of_below (S := []) bx).blk H6.out.2.1 (by simp), (Turns.of_below (S := []) bx).blk H6.out.2.2.1 (by simp), H6.out.2.2.2.2.2.2.1, H3.out.2.2.2.2⟩)
            clear bx f0 f1 d0 n0c n1c
            have d0 : wx.cell? ⟨wb, 0, none⟩ = some (.int .i64 p.pc) := H7.out.2.1.cell 0
            have n0c : wx.cell? ⟨nb, 0, none⟩ = some (.int .i64 p'.pc) := H7.out.2.2.1.cell 0
            obtain ⟨b4, hb4⟩ : ∃ b, b = decide (p.pc = 4 ∧ p'.pc = 5) := ⟨_, rfl⟩
            have HB4 := Lib.hid hb4
            clear hb4
            go_upto_region 21 with fail
            go_cut [104] (fun s104 wy => s104 = .bool b4 ∧ wy = wx)
            case first =>
              by_cases c4 : p.pc = 4
              · have t4 : (p.pc == 4) = true := by simpa using c4
                by_cases c5 : p'.pc = 5
                · have t5 : (p'.pc == 5) = true := by simpa using c5
                  have HE : Hid (true = b4) := Lib.hid (by rw [HB4.out]; simp [c4, c5])
                  clear c4 c5
                  go_wp2
                  go_meet
                  case rel => exact ⟨congrArg Value.bool HE.out, rfl⟩
                · have t5 : (p'.pc == 5) = false := by simpa using c5
                  have HE : Hid (false = b4) := Lib.hid (by rw [HB4.out]; simp [c5])
                  clear c4 c5
                  go_wp2
                  go_meet
                  case rel => exact ⟨congrArg Value.bool HE.out, rfl⟩
              · have t4 : (p.pc == 4) = false := by simpa using c4
                have HE : Hid (false = b4) := Lib.hid (by rw [HB4.out]; simp [c4])
                clear c4
                go_wp2
                go_meet
                case rel => exact ⟨congrArg Value.bool HE.out, rfl⟩
            case rest =>
            obtain ⟨rfl, rfl⟩ := hcut
            go_upto_if 104 with fail
            go_cut [17] (fun s17 wy => ∃ L', PsW w0 wy l a g q b u lo hi d P T h' (k + 1) G' pb L' ∧ Blk wy wb 35 #[.int .i64 p.pc, .int .i64 p.a, .int .i64 p.b, .int .i64 p.c] ∧ Blk wy nb 35 #[.int .i64 p'.pc, .int .i64 p'.a, .int .i64 p'.b, .int .i64 p'.c] ∧ Fl T.length L' (P1 Pf p.pc p'.pc j0))
            case first =>
              cases b4
              · have HN := Lib.hid (show ¬ (p.pc = 4 ∧ p'.pc = 5) from of_decide_eq_false HB4.out.symm)
                go_wp2
                go_meet
                case rel => exact ⟨L, H7.out.1, H7.out.2.1, H7.out.2.2.1, HFI.out.1.congr fun x y _ _ => by unfold P1; rw [if_neg (fun h => HN.out h.1)]⟩
              · obtain ⟨c4, c5⟩ : p.pc = 4 ∧ p'.pc = 5 := of_decide_eq_true HB4.out.symm
                · obtain ⟨hj, hI⟩ : j0 < T.length ∧ ii = (j0 : Int) := by
                    rcases HJ.out with ⟨e1, _⟩ | ⟨hj, hI, _⟩
                    · rw [e1] at c5; omega
                    · exact ⟨hj, hI⟩
                  have HCC := Lib.hid (And.intro c4 c5)
                  obtain ⟨JN, hJN⟩ : ∃ JN, JN = j0 * T.length := ⟨_, rfl⟩
                  have x1 : IntKind.i64.wrap ((j0 : Int) * (T.length : Int)) = (JN : Int) := by
                    rw [show ((j0 : Int) * (T.length : Int)) = (JN : Int) by rw [hJN]; simp]
                    have : JN ≤ 64 := by rw [hJN]; exact Nat.mul_le_mul (show j0 ≤ 8 by omega) hT8
                    exact IntWalk.i64_in _ (by omega)
                  have hJN2 : ∀ m, m < T.length → JN + m < NN := fun m hm => by rw [hJN, HNN.out]; exact flat_lt hj hm
                  have HJN2 := Lib.hid hJN2
                  have HJN := Lib.hid hJN
                  subst hI
                  clear c4 c5 hJN hJN2
                  go_wp2
                  go_loopw [17] (fun kk wr => ∃ (m : Nat) (L' : List Int), kk = .int .i64 m ∧ m ≤ T.length ∧ PsW w0 wr l a g q b u lo hi d P T h' (k + 1) G' pb L' ∧ Blk wr wb 35 #[.int .i64 p.pc, .int .i64 p.a, .int .i64 p.b, .int .i64 p.c] ∧ Blk wr nb 35 #[.int .i64 p'.pc, .int .i64 p'.a, .int .i64 p'.b, .int .i64 p'.c] ∧ Fl T.length L' (Z0 Pf j0 m)) (fun kk _ => T.length - (intOf kk).toNat)
                  case atStart => exact ⟨0, L, rfl, by omega, H7.out.1, H7.out.2.1, H7.out.2.2.1, HFI.out.1.z0⟩
                  case round =>
                    obtain ⟨m, L', rfl, hm, hW, e1, e2, hF⟩ := hrel
                    obtain ⟨wi, rfl⟩ : ∃ wi : World, wi = wr := ⟨_, rfl⟩
                    have HWi := Lib.hid (And.intro hW (And.intro e1 (And.intro e2 hF)))
                    clear hW e1 e2 hF d0 n0c
                    by_cases hlt2 : m < T.length
                    · have y0 := HJN2.out m hlt2
                      have y1 : L'.length = NN := by rw [HWi.out.2.2.2.1, HNN.out]
                      have c0 := HWi.out.1.at (i := JN + m) (by omega)
                      have z0 := HWi.out.1.blk.free (JN + m)
                      have HR := Lib.hid (show PsW w0 (wi.setCell ⟨pb, JN + m, none⟩ (.int .i64 0)) l a g q b u lo hi d P T h' (k + 1) G' pb (L'.set (JN + m) 0) ∧ Blk (wi.setCell ⟨pb, JN + m, none⟩ (.int .i64 0)) wb 35 #[.int .i64 p.pc, .int .i64 p.a, .int .i64 p.b, .int .i64 p.c] ∧ Blk (wi.setCell ⟨pb, JN + m, none⟩ (.int .i64 0)) nb 35 #[.int .i64 p'.pc, .int .i64 p'.a, .int .i64 p'.b, .int .i64 p'.c] ∧ Fl T.length (L'.set (JN + m) 0) (Z0 Pf j0 (m + 1)) from
                        ⟨HWi.out.1.put _ _, HWi.out.2.1.far H7.out.2.2.2.2 _, HWi.out.2.2.1.far H7.out.2.2.2.1 _, by rw [HJN.out]; exact HWi.out.2.2.2.z1 hj hlt2⟩)
                      clear y1
                      go_wp2
                      go_roundw
                      case rel => exact ⟨m + 1, _, by go_num, by omega, HR.out⟩
                      case measure => simp [intOf]; omega
                    · obtain rfl : m = T.length := by omega
                      go_wp2
                      go_meet
                      case rel => exact ⟨_, HWi.out.1, HWi.out.2.1, HWi.out.2.2.1, by
                        have e := HWi.out.2.2.2.zn (was := p.pc) (now := p'.pc) HCC.out.1 HCC.out.2
                        exact e.congr fun x y _ _ => by unfold P2; rw [if_neg (fun h => absurd (h.2.symm.trans HCC.out.2) (by decide))]⟩
            case rest =>
              obtain ⟨L', hW, e1, e2, hF⟩ := hcut
              obtain ⟨wy, rfl⟩ : ∃ wy : World, wy = wc := ⟨_, rfl⟩
              have H8 := Lib.hid (And.intro hW (And.intro e1 (And.intro e2 hF)))
              clear hW e1 e2 hF d0 n0c
              have d0 : wy.cell? ⟨wb, 0, none⟩ = some (.int .i64 p.pc) := H8.out.2.1.cell 0
              have n0c : wy.cell? ⟨nb, 0, none⟩ = some (.int .i64 p'.pc) := H8.out.2.2.1.cell 0
              by_cases c9 : p.pc < 10 ∧ p'.pc = 10
              · obtain ⟨c9a, c9b⟩ := c9
                have t9 : decide (10 ≤ p.pc) = false := decide_eq_false (by omega)
                have t10 : (p'.pc != 10) = false := by simpa using c9b
                obtain ⟨hj, hI, ep, eS, st⟩ : j0 < T.length ∧ ii = (j0 : Int) ∧ p = sv h.S j0 ∧ h'.S = h.S.set j0 p' ∧ StA T.length (nodeN P T) p p' j0 (G 0) (G' 0) := by
                  rcases HJ.out with ⟨e1, _⟩ | e
                  · rw [e1] at c9b; omega
                  · exact e
                have HAct := PInv.act HW.out.st.ok H8.out.1.st.ok hj eS (by rw [← ep]; exact st) HFI.out.2
                rw [← ep] at HAct
                have HAC := Lib.hid HAct
                have hP1 : P1 Pf p.pc p'.pc j0 = Pf := by
                  funext x y; unfold P1; rw [if_neg (fun h => absurd (h.1.2.symm.trans c9b) (by decide))]
                have HCC := Lib.hid (And.intro c9a (And.intro c9b hP1))
                subst hI
                clear c9a c9b hP1 HAct ep eS st
                go_wp2
                go_loopw [18] (fun kk wr => ∃ (m : Nat) (L2 : List Int), kk = .int .i64 m ∧ m ≤ T.length ∧ PsW w0 wr l a g q b u lo hi d P T h' (k + 1) G' pb L2 ∧ Fl T.length L2 (QN Pf j0 m m)) (fun kk _ => T.length - (intOf kk).toNat)
                case atStart => exact ⟨0, L', rfl, by omega, H8.out.1, by have := H8.out.2.2.2; rw [HCC.out.2.2] at this; exact this.q0⟩
                case round =>
                  obtain ⟨m, L2, rfl, hm, hW, hF⟩ := hrel
                  obtain ⟨wi, rfl⟩ : ∃ wi : World, wi = wr := ⟨_, rfl⟩
                  have HWi := Lib.hid (And.intro hW hF)
                  clear hW hF d0 n0c
                  by_cases hlt2 : m < T.length
                  · obtain ⟨JN, hJN⟩ : ∃ JN, JN = j0 * T.length := ⟨_, rfl⟩
                    obtain ⟨MN, hMN⟩ : ∃ MN, MN = m * T.length := ⟨_, rfl⟩
                    have x1 : IntKind.i64.wrap ((j0 : Int) * (T.length : Int)) = (JN : Int) := by
                      rw [show ((j0 : Int) * (T.length : Int)) = (JN : Int) by rw [hJN]; simp]
                      have : JN ≤ 64 := by rw [hJN]; exact Nat.mul_le_mul (show j0 ≤ 8 by omega) hT8
                      exact IntWalk.i64_in _ (by omega)
                    have x2 : IntKind.i64.wrap ((m : Int) * (T.length : Int)) = (MN : Int) := by
                      rw [show ((m : Int) * (T.length : Int)) = (MN : Int) by rw [hMN]; simp]
                      have : MN ≤ 64 := by rw [hMN]; exact Nat.mul_le_mul (show m ≤ 8 by omega) hT8
                      exact IntWalk.i64_in _ (by omega)
                    have y0 : JN + m < NN := by rw [hJN, HNN.out]; exact flat_lt hj hlt2
                    have y1 : MN + j0 < NN := by rw [hMN, HNN.out]; exact flat_lt hlt2 hj
                    have y2 : L2.length = NN := by rw [HWi.out.2.1, HNN.out]
                    have c0 := HWi.out.1.at (i := JN + m) (by omega)
                    have z0 := HWi.out.1.blk.free (JN + m)
                    have z1 := HWi.out.1.blk.free (MN + j0)
                    have c2 : wi.cell? ⟨pb, MN + j0, none⟩ = some (.int .i64 (L2.getD (MN + j0) 0)) := HWi.out.1.at (by omega)
                    have HY := Lib.hid (And.intro hJN (And.intro hMN y2))
                    have HR1 := Lib.hid (show PsW w0 (wi.setCell ⟨pb, JN + m, none⟩ (.int .i64 (-1))) l a g q b u lo hi d P T h' (k + 1) G' pb (L2.set (JN + m) (-1)) ∧ Fl T.length (L2.set (JN + m) (-1)) (QN Pf j0 (m + 1) m) from ⟨HWi.out.1.put _ _, by rw [hJN]; exact HWi.out.2.q1 hj hlt2⟩)
                    clear hJN hMN y2
                    by_cases hmj : m = j0
                    · have t1 : ((m : Int) != (j0 : Int)) = false := by simp [hmj]
                      have HM := Lib.hid hmj
                      clear hmj
                      go_wp2
                      go_roundw
                      case rel => exact ⟨m + 1, _, by go_num, by omega, HR1.out.1, HR1.out.2.q3 (fun h => h.1 HM.out)⟩
                      case measure => simp [intOf]; omega
                    · have t1 : ((m : Int) != (j0 : Int)) = true := by simp; omega
                      have HM := Lib.hid hmj
                      have hne : ¬ (JN + m = MN + j0) := fun e => by
                        rw [HY.out.1, HY.out.2.1] at e
                        exact hmj (flat_inj hlt2 hj e).1.symm
                      have hne' : ¬ (MN + j0 = JN + m) := fun e => hne e.symm
                      have hval : L2.getD (MN + j0) 0 = Pf m j0 := by
                        rw [HY.out.2.1, HWi.out.2.2 m j0 hlt2 hj]
                        unfold QN
                        rw [if_neg hmj, if_neg (fun h => absurd h.2.1 (Nat.lt_irrefl _))]
                      rw [hval] at c2
                      by_cases hp0 : 0 ≤ Pf m j0
                      · have hpz : Pf m j0 = 0 := by
                          have := HAC.out.2 HCC.out.1 HCC.out.2.1 m hlt2 hmj
                          rw [HCC.out.2.2] at this
                          exact this hp0
                        rw [hpz] at c2
                        have HR2 := Lib.hid (show PsW w0 ((wi.setCell ⟨pb, JN + m, none⟩ (.int .i64 (-1))).setCell ⟨pb, MN + j0, none⟩ (.int .i64 1)) l a g q b u lo hi d P T h' (k + 1) G' pb ((L2.set (JN + m) (-1)).set (MN + j0) 1) ∧ Fl T.length ((L2.set (JN + m) (-1)).set (MN + j0) 1) (QN Pf j0 (m + 1) (m + 1)) from ⟨HR1.out.1.put _ _, by
                          have := HR1.out.2.q2 hj hlt2 hmj hp0
                          rw [hpz] at this
                          rw [HY.out.2.1]
                          exact this⟩)
                        clear hmj hp0 hpz hval
                        go_wp2
                        go_roundw
                        case rel => exact ⟨m + 1, _, by go_num, by omega, HR2.out.1, HR2.out.2⟩
                        case measure => simp [intOf]; omega
                      · obtain ⟨pv, hpv⟩ : ∃ x, x = Pf m j0 := ⟨_, rfl⟩
                        rw [← hpv] at c2 hp0
                        have HPV := Lib.hid (And.intro hpv hp0)
                        have t2 : decide (0 ≤ pv) = false := decide_eq_false hp0
                        clear hmj hp0 hpv hval
                        go_wp2
                        go_roundw
                        case rel => exact ⟨m + 1, _, by go_num, by omega, HR1.out.1, HR1.out.2.q3 (fun h => absurd h.2 (by have := HPV.out.2; rw [HPV.out.1] at this; omega))⟩
                        case measure => simp [intOf]; omega
                  · obtain rfl : m = T.length := by omega
                    have HFin := Lib.hid (show Fl T.length L2 (P2 Pf p.pc p'.pc j0) from HWi.out.2.qn HCC.out.1 HCC.out.2.1)
                    go_wp2
                    go_roundw
                    case rel => exact ⟨k + 1, h', G', L2, _, by go_num, by omega, HWi.out.1, HFin.out, HAC.out.1⟩
                    case measure => simp [intOf]; omega
              · have HC9 := Lib.hid c9
                have HPN := Lib.hid (show PInv T.length h'.S (G' 0) (P2 Pf p.pc p'.pc j0) from by
                  rcases HJ.out with ⟨e1, e2, e3⟩ | ⟨hj, hI, ep, eS, st⟩
                  · have : P2 Pf p.pc p'.pc j0 = Pf := by
                      funext x y
                      unfold P2
                      rw [if_neg (by rw [e1]; omega)]
                      unfold P1
                      rw [if_neg (by rw [e1]; omega)]
                    rw [this, e2, e3]
                    exact HFI.out.2
                  · have HAct := PInv.act HW.out.st.ok H8.out.1.st.ok hj eS (by rw [← ep]; exact st) HFI.out.2
                    rw [← ep] at HAct
                    exact HAct.1)
                have HFN := Lib.hid (show Fl T.length L' (P2 Pf p.pc p'.pc j0) from H8.out.2.2.2.congr fun x y _ _ => by unfold P2; rw [if_neg HC9.out])
                by_cases c10 : 10 ≤ p.pc
                · have t9 : decide (10 ≤ p.pc) = true := decide_eq_true c10
                  clear c9 c10
                  go_wp2
                  go_roundw
                  case rel => exact ⟨k + 1, h', G', L', _, by go_num, by omega, H8.out.1, HFN.out, HPN.out⟩
                  case measure => simp [intOf]; omega
                · have t9 : decide (10 ≤ p.pc) = false := decide_eq_false c10
                  have t10 : (p'.pc != 10) = true := by simp; omega
                  clear c9 c10
                  go_wp2
                  go_roundw
                  case rel => exact ⟨k + 1, h', G', L', _, by go_num, by omega, H8.out.1, HFN.out, HPN.out⟩
                  case measure => simp [intOf]; omega
        · obtain rfl : k = ls.length := by omega
          go_wp2_with fail
          refine (awake29 _).mono ?_
          rintro ea2 wa2 ⟨rfl, ba2⟩
          have HB2 := Lib.hid (HB0.out.trans ((HW.out.st.bel.trans (ba2.mono HW.out.st.bel.size)).mono hw0s))
          clear ba2
          go_wp2
          go_ret
          exact ⟨rfl, HB2.out⟩
end Go.Proofs.YtkdaiomjbkpedaaGreat
end
