/- Layer 7, the document's: Up, Far, Meet. -/
import Derived.Test.YtnlpghjlhnhkeaaPa15
import Derived.Test.YtnlpghjlhnhkeaaPa13
namespace Go.Proofs.Ytnlpghjlhnhkeaa
open Go.RowKit

set_option maxRecDepth 100000 in
set_option maxHeartbeats 2000000 in
theorem rup_any (w : World) (vP vT : Value) (P T : List Int) (i : Int) (h : TopoAt w vP vT P T) :
    Calls Try.prog 24 #[.agg #[vP, vT], .int .i64 i] w fun e w' => ∃ v, e = .returned v ∧ w'.ownsRow w.heap.size 3 1 v (upI P T i).length ((upI P T i).flatMap encI) ∧ Below w.heap.size w w' := by
  obtain ⟨i0, hi0, hz0, hz1, hz2⟩ := info_parts Try.infoIn
  have HI := Lib.hid (And.intro hi0 (And.intro hz0 (And.intro hz1 hz2)))
  clear hi0 hz0 hz1 hz2
  have hm := many_lt (chk_ok h.ok).1
  have hb0 : Below w.heap.size w (w.alloc (.cells #[vP, vT] 24)) := (Below.refl _ _).alloc (Nat.le_refl _) _
  have HB0 := Lib.hid hb0
  have hbx : w.heap.size < (w.alloc (.cells #[vP, vT] 24)).heap.size := by simp
  cases hh : hasB T i
  · have HH := Lib.hid (rhas_any (w.alloc (.cells #[vP, vT] 24)) vP vT P T i false hh (h.below hb0 (Nat.le_refl _)))
    have HE : Hid (upI P T i = []) := Lib.hid (by unfold upI; rw [hh]; rfl)
    obtain ⟨AP, cP, rfl, lP1, lP2⟩ := rdl_form h.p
    obtain ⟨AT, cT, rfl, lT1, lT2⟩ := rdl_form h.t
    clear h hh hb0
    go_enter Try.func24, Try.ntmps24
    go_wp2_with fail
    refine HH.out.mono ?_
    rintro en w1 ⟨rfl, b1⟩
    have H1 := Lib.hid (HB0.out.trans (b1.mono HB0.out.size))
    clear b1
    go_wp2
    go_ret
    exact ⟨_, rfl, by rw [HE.out]; exact World.ownsRow_nil _ _ _ _, H1.out⟩
  · obtain ⟨ki, rfl, hki⟩ := has_nat hh
    obtain ⟨x, hx⟩ := getElem?_lt hki
    have HE : Hid (upI P T ki = upL P x) := Lib.hid (by unfold upI; rw [hh]; simp [hx])
    have HTR := Lib.hid (chk_ok h.ok).2.1
    have hxl := leaf_lt (mem_leaves.1 (thr_mem (chk_ok h.ok).2.2.2 hx))
    obtain ⟨m, rfl⟩ := Int.eq_ofNat_of_zero_le hxl.1
    have hml : m < P.length := by omega
    have HH := Lib.hid (rhas_any (w.alloc (.cells #[vP, vT] 24)) vP vT P T ki true hh (h.below hb0 (Nat.le_refl _)))
    have HT := Lib.hid (And.intro h.p h.t)
    have HX := Lib.hid hx
    obtain ⟨AP, cP, rfl, lP1, lP2⟩ := rdl_form h.p
    obtain ⟨AT, cT, rfl, lT1, lT2⟩ := rdl_form h.t
    have HC := Lib.hid (show (w.alloc (.cells #[.slice AP P.length cP, .slice AT T.length cT] 24)).cell? ⟨w.heap.size, 0, none⟩ = some (.slice AP P.length cP) ∧ (w.alloc (.cells #[.slice AP P.length cP, .slice AT T.length cT] 24)).cell? ⟨w.heap.size, 1, none⟩ = some (.slice AT T.length cT) by simp [World.cell?_alloc_new])
    clear h hh hb0 hx hxl
    go_enter Try.func24, Try.ntmps24
    go_wp2_with fail
    refine HH.out.mono ?_
    rintro en w1 ⟨rfl, b1⟩
    have H1 := Lib.hid (HB0.out.trans (b1.mono HB0.out.size))
    have hs1 := b1.size
    simp at hs1
    have x0 := (b1.cell (p := ⟨w.heap.size, 0, none⟩) hbx).trans HC.out.1
    have x1 := (b1.cell (p := ⟨w.heap.size, 1, none⟩) hbx).trans HC.out.2
    obtain ⟨bT, oT, hAT, _, hcT⟩ := rdl_int (HT.out.2.below H1.out (Nat.le_refl _)) (by omega)
    have z1 := hcT ki _ HX.out
    subst hAT
    have HRP := Lib.hid (HT.out.1.below H1.out (Nat.le_refl _))
    have X0 := Lib.hid x0
    clear b1 hcT
    go_wp2
    go_loopw [5, 6, 7] (fun o y s wr => ∃ (k : Nat) (z : Int) (dn : List Int), s = .int .i64 k ∧ y = .int .i64 z ∧ k ≤ P.length ∧ z < P.length ∧ dn.length = k ∧ upL P m = dn ++ upL P z ∧ (k : Int) + z ≤ m ∧ -1 ≤ z ∧ wr.ownsRow w1.heap.size 3 1 o k (dn.flatMap encI) ∧ Below w1.heap.size w1 wr) (fun _ _ s _ => P.length - (intOf s).toNat)
    case atStart => exact ⟨0, m, [], rfl, rfl, by omega, by omega, rfl, rfl, by omega, by omega, World.ownsRow_nil _ _ _ _, Below.refl _ _⟩
    case round =>
      obtain ⟨k, z, dn, rfl, rfl, hk, hz, hdl, hup, hle, hz1, ho, hb⟩ := hrel
      obtain ⟨wq, rfl⟩ : ∃ wq : World, wq = wr := ⟨_, rfl⟩
      have y0 := (hb.cell (p := ⟨w.heap.size, 0, none⟩) (show w.heap.size < w1.heap.size by omega)).trans x0
      have HO := Lib.hid (And.intro ho hb)
      have HUP := Lib.hid (And.intro hup hdl)
      have hsz := hb.size
      have HRQ := Lib.hid (HRP.out.below hb (Nat.le_refl _))
      clear hup hdl x0 hb
      by_cases h0 : 0 ≤ z
      · obtain ⟨n, rfl⟩ := Int.eq_ofNat_of_zero_le h0
        have hlt : k < P.length := by omega
        obtain ⟨q, hq⟩ := getElem?_lt (show n < P.length by omega)
        have hql := tree_lt HTR.out hq
        have HQ := Lib.hid (And.intro (upL_step HTR.out hq) hq)
        obtain ⟨A6, c6, rfl⟩ := own_form ho
        clear hq
        go_wp2_with (at_builtin; refine wpList_append_own _ rfl _ _ 22 rfl w1.heap.size 3 i0 (.int .i64 0) 1 8 Try.underlying22 HI.out.1 HI.out.2.1 HI.out.2.2.1 HI.out.2.2.2 rfl (by decide) _ _ _ rfl (ho.alloc _) ⟨wq.heap.size, 0, none⟩ 1 1 (encI n) rfl rfl (cell_one_new _ _ _) (one_enc _) ?c3 ?c4 ?c5 ?_)
        case c3 => unfold maxLen; omega
        case c4 => omega
        case c5 => simp; omega
        intro v' w' hown' hgrow hnil
        have HN := Lib.hid (And.intro hown' hgrow)
        have hb2 : Below w1.heap.size w1 w' := (HO.out.2.alloc hsz _).grown hgrow (by simp; omega) (fun j hj => (HO.out.1.lt j hj).1)
        have HW := Lib.hid hb2
        obtain ⟨bP, oP, hAP, _, hcP⟩ := rdl_int (HRP.out.below hb2 (Nat.le_refl _)) (by omega)
        have c0 := hcP n q HQ.out.2
        have y1 := (hb2.cell (p := ⟨w.heap.size, 0, none⟩) (show w.heap.size < w1.heap.size by omega)).trans X0.out
        subst hAP
        clear hown' hgrow hnil hb2 hcP ho
        go_wp2
        go_roundw
        case rel => exact ⟨k + 1, q, dn ++ [(n : Int)], by go_num, rfl, by omega, by omega, by simp [HUP.out.2], by rw [HUP.out.1, HQ.out.1]; simp, by omega, by omega, by rw [flat_snoc]; exact HN.out.1, HW.out⟩
        case measure => simp [intOf]; omega
      · have hF : Hid (upL P m = dn) := Lib.hid (by have h := HUP.out.1; rw [upL_neg (P := P) (p := z) (by omega), List.append_nil] at h; exact h)
        by_cases hlt : k < P.length
        all_goals
          go_wp2
          go_ret
          exact ⟨_, rfl, by rw [HE.out, hF.out, HUP.out.2]; exact own_lower HO.out.1 H1.out.size, H1.out.trans (HO.out.2.mono H1.out.size)⟩
end Go.Proofs.Ytnlpghjlhnhkeaa
