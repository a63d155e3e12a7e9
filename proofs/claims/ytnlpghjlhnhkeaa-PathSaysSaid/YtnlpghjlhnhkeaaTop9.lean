/- Layer 6: the document's Leaves. -/
import Derived.Test.YtnlpghjlhnhkeaaTop8
namespace Go.Proofs.Ytnlpghjlhnhkeaa
open Go.RowKit

set_option maxRecDepth 100000 in
set_option maxHeartbeats 2000000 in
theorem rleaves_any (w : World) (vP vT : Value) (P T : List Int) (hP : RdL w vP 1 encI P) (hT : RdL w vT 1 encI T) :
    Calls Try.prog 27 #[.agg #[vP, vT]] w fun e w' => ∃ v, e = .returned v ∧ w'.ownsRow w.heap.size 3 1 v (lvsT P T).length ((lvsT P T).flatMap encI) ∧ Below w.heap.size w w' := by
  obtain ⟨i0, hi, hz0, hz1, hz2⟩ := info_parts Try.infoIn
  have HI := Lib.hid (And.intro hi (And.intro hz0 (And.intro hz1 hz2)))
  have hb0 : Below w.heap.size w (w.alloc (.cells #[vP, vT] 24)) := (Below.refl _ _).alloc (Nat.le_refl _) _
  have HC := Lib.hid (rcheck_any (w.alloc (.cells #[vP, vT] 24)) vP vT P T (hP.alloc _) (hT.alloc _))
  have HP := Lib.hid hP
  have HB0 := Lib.hid hb0
  obtain ⟨AP, cP, rfl, lP1, lP2⟩ := rdl_form hP
  obtain ⟨AT, cT, rfl, lT1, lT2⟩ := rdl_form hT
  clear hP hT hb0 hi hz0 hz1 hz2
  have hbx : w.heap.size < (w.alloc (.cells #[.slice AP P.length cP, .slice AT T.length cT] 24)).heap.size := by simp
  have HX := Lib.hid (show (w.alloc (.cells #[.slice AP P.length cP, .slice AT T.length cT] 24)).cell? ⟨w.heap.size, 0, none⟩ = some (.slice AP P.length cP) by simp [World.cell?_alloc_new])
  go_enter Try.func27, Try.ntmps27
  by_cases hc : chkT P T = 0
  · have HL := Lib.hid (show lvsT P T = leavesL P from by unfold lvsT; rw [if_pos hc])
    obtain ⟨hm, _, _, _⟩ := chk_ok hc
    have hml := many_lt hm
    rw [hc] at HC
    clear hc hm
    go_wp2_with fail
    refine HC.out.mono ?_
    rintro en w1 ⟨rfl, b1⟩
    have x0 := (b1.cell (p := ⟨w.heap.size, 0, none⟩) hbx).trans HX.out
    have hs1 := b1.size
    simp at hs1
    have HB1 := Lib.hid (HB0.out.trans (b1.mono HB0.out.size))
    have HP1 := Lib.hid (HP.out.below HB1.out (Nat.le_refl _))
    clear b1
    go_wp2
    go_loopw [3, 4] (fun o i wr => ∃ k : Nat, i = .int .i64 k ∧ k ≤ P.length ∧ wr.ownsRow w1.heap.size 3 1 o (leavesTo P k).length ((leavesTo P k).flatMap encI) ∧ Below w1.heap.size w1 wr) (fun _ i _ => P.length - (intOf i).toNat)
    case atStart => exact ⟨0, rfl, by omega, World.ownsRow_nil _ _ _ _, Below.refl _ _⟩
    case round =>
      obtain ⟨k, rfl, hk, hown, hbel⟩ := hrel
      obtain ⟨wq, rfl⟩ : ∃ wq : World, wq = wr := ⟨_, rfl⟩
      have y0 := (hbel.cell (p := ⟨w.heap.size, 0, none⟩) (show w.heap.size < w1.heap.size by omega)).trans x0
      have hll := leavesTo_len P k
      have hsz := hbel.size
      have HPr := Lib.hid (HP1.out.below hbel (Nat.le_refl _))
      have HO := Lib.hid (And.intro hown hbel)
      have HS := Lib.hid (leavesTo_succ P k)
      clear x0 hbel
      by_cases hlt : k < P.length
      · have HL := Lib.hid (rleaf_any wq _ P k HPr.out)
        obtain ⟨A9, c9, rfl⟩ := own_form hown
        cases hlf : leafB P k
        · rw [hlf] at HL
          have HM := Lib.hid hlf
          clear hlf hown
          go_wp2_with (go_at_call 45; refine HL.out.mono ?_; rintro e w' ⟨rfl, rfl⟩)
          go_roundw
          case rel => exact ⟨k + 1, by go_num, by omega, by rw [HS.out, HM.out]; exact HO.out.1, HO.out.2⟩
          case measure => simp [intOf]; omega
        · rw [hlf] at HL
          have HM := Lib.hid hlf
          clear hlf
          go_wp2_with (first
            | (go_at_call 45; refine HL.out.mono ?_; rintro e w' ⟨rfl, rfl⟩)
            | (at_builtin; refine wpList_append_own _ rfl _ _ 22 rfl w1.heap.size 3 i0 (.int .i64 0) 1 8 Try.underlying22 HI.out.1 HI.out.2.1 HI.out.2.2.1 HI.out.2.2.2 rfl (by decide) _ _ _ rfl (hown.alloc _) ⟨wq.heap.size, 0, none⟩ 1 1 (encI k) rfl rfl (cell_one_new _ _ _) (one_enc _) ?c3 ?c4 ?c5 ?_))
          case c3 => unfold maxLen; omega
          case c4 => omega
          case c5 => simp; omega
          intro v' w' hown' hgrow hnil
          have HN := Lib.hid (And.intro hown' hgrow)
          clear hown' hgrow hnil hown
          go_wp2
          go_roundw
          case rel => exact ⟨k + 1, by go_num, by omega, by rw [HS.out, HM.out]; simp only [if_true]; rw [flat_snoc, List.length_append]; exact HN.out.1, (HO.out.2.alloc hsz _).grown HN.out.2 (by simp; omega) (fun j hj => (HO.out.1.lt j hj).1)⟩
          case measure => simp [intOf]; omega
      · obtain rfl : k = P.length := by omega
        clear hown
        go_wp2
        go_ret
        exact ⟨_, rfl, by rw [HL.out]; exact own_lower HO.out.1 (by omega), HB1.out.trans (HO.out.2.mono (by omega))⟩
  · have HL := Lib.hid (show lvsT P T = [] from by unfold lvsT; rw [if_neg hc])
    obtain ⟨z, hz⟩ : ∃ z, z = chkT P T := ⟨_, rfl⟩
    rw [← hz] at HC hc
    have hz0 : (z != 0) = true := by simpa using hc
    clear hc hz
    go_wp2_with fail
    refine HC.out.mono ?_
    rintro en w1 ⟨rfl, b1⟩
    have HB1 := Lib.hid (HB0.out.trans (b1.mono HB0.out.size))
    clear b1
    go_wp2
    go_ret
    exact ⟨_, rfl, by rw [HL.out]; exact World.ownsRow_nil _ _ _ _, HB1.out⟩
end Go.Proofs.Ytnlpghjlhnhkeaa
