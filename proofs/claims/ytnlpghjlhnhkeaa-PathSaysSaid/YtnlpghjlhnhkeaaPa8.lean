/- path.found: the table, found. -/
import Derived.Test.YtnlpghjlhnhkeaaPa7
namespace Go.Proofs.Ytnlpghjlhnhkeaa
open Go.RowKit

/-- a table of which all is found -/
structure TabF (w : World) (b : Nat) (P T : List Int) : Prop where
  ok : chkT P T = 0
  ex : ∃ AP cP AT cT vU vN vS vM us, Blk w b 61 (tabC (.slice AP P.length cP) (.slice AT T.length cT) 1 0 vU vN vS vM) ∧ RdL w (.slice AP P.length cP) 1 encI P ∧ RdL w (.slice AT T.length cT) 1 encI T ∧
    RdL w vN 1 encI (nodesTo P T T.length) ∧ RdL w vS 1 encI (slotsTo T T.length) ∧ RdL w vM 1 encI (matesTo P T T.length) ∧
    RdL w vU 1 (fun v => [v]) us ∧ us.length = T.length ∧ ∀ (i : Nat) (x : Int) (v : Value), T[i]? = some x → us[i]? = some v → RdL w v 1 encI (upL P x)
theorem TabF.below {w w' : World} {b : Nat} {P T : List Int} (h : TabF w b P T) (k : Below w.heap.size w w') : TabF w' b P T := by
  obtain ⟨AP, cP, AT, cT, vU, vN, vS, vM, us, h1, h2, h3, h4, h5, h6, h7, h8, h9⟩ := h.ex
  exact ⟨h.ok, AP, cP, AT, cT, vU, vN, vS, vM, us, h1.below k h1.lt, h2.below k (Nat.le_refl _), h3.below k (Nat.le_refl _), h4.below k (Nat.le_refl _), h5.below k (Nat.le_refl _), h6.below k (Nat.le_refl _), h7.below k (Nat.le_refl _), h8, fun i x v a c => (h9 i x v a c).below k (Nat.le_refl _)⟩
theorem tab_of_find {w1 w2 : World} {b : Nat} {AP AT : Option Addr} {cP cT : Nat} {P T : List Int} {vL vU vN vS vM : Value} {us : List ORow} (hc : chkT P T = 0)
    (h : FindIs w1 w2 b (.slice AP P.length cP) (.slice AT T.length cT) P T vL vU vN vS vM us T.length)
    (hP : RdL w1 (.slice AP P.length cP) 1 encI P) (hT : RdL w1 (.slice AT T.length cT) 1 encI T)
    (nP : ∀ g, (Value.slice AP P.length cP).ownBlock = some g → g ≠ b) (nT : ∀ g, (Value.slice AT T.length cT).ownBlock = some g → g ≠ b) :
    TabF (onceEnd b 2 w2) b P T ∧ Turns [b] w1 (onceEnd b 2 w2) := by
  have hml := many_lt (chk_ok hc).1
  have hll : (leavesL P).length ≤ 32 := by have := leavesTo_len P P.length; show (leavesTo P P.length).length ≤ _; omega
  have k0 : Turns [b] w2 (onceEnd b 2 w2) := ((Turns.refl [b] w2).drew.setCell (.inl (by simp)) _).setCell (.inl (by simp)) _
  have k1 := h.bel.trans k0
  have hr : ∀ r ∈ ([intRow vL (leavesL P), intRow vM (matesTo P T T.length), intRow vN (nodesTo P T T.length), intRow vS (slotsTo T T.length), upRow (us.map (·.v)) vU] ++ us), (onceEnd b 2 w2).ownsRow w1.heap.size r.e 1 r.v r.n r.xs := fun r hr => (h.rows.turn k0).own r hr
  refine ⟨⟨hc, AP, cP, AT, cT, vU, vN, vS, vM, us.map (·.v), ?_, hP.turns k1 (fun g hg hm => by simp at hm; exact nP g hg hm), hT.turns k1 (fun g hg hm => by simp at hm; exact nT g hg hm), ?_, ?_, ?_, ?_, by simp [h.len], fun i x v hi hv => ?_⟩, k1⟩
  · exact ((h.blk.drew).set_ 2 (.int .u32 1)).set_ 3 (.int .i32 0)
  · exact own_rdl (hr (intRow vN (nodesTo P T T.length)) (by simp)) (by rw [nodesTo_len (Nat.le_refl _)]; omega)
  · exact own_rdl (hr (intRow vS (slotsTo T T.length)) (by simp)) (by rw [slotsTo_len]; omega)
  · exact own_rdl (hr (intRow vM (matesTo P T T.length)) (by simp)) (by rw [matesTo_len]; omega)
  · have h1 := hr (upRow (us.map (·.v)) vU) (by simp)
    refine RdL.of_own (enc := fun v => [v]) (sz := 1) (fun _ => rfl) rfl (by rw [List.length_map, h.len]; omega) (e := 22) (base := w1.heap.size) ?_
    have e : (us.map (·.v)).flatMap (fun (v : Value) => [v]) = us.map (·.v) := by simp
    rw [e]
    exact h1
  · rw [List.getElem?_map] at hv
    cases hu : us[i]? with
    | none => rw [hu] at hv; cases hv
    | some r =>
      rw [hu] at hv
      injection hv with hv
      subst hv
      have hrr := h.up i x r hi hu
      have ho := hr r (by simp [List.mem_of_getElem? hu])
      rw [hrr] at ho
      exact own_rdl ho (by have := upL_le P x; omega)
set_option maxRecDepth 100000 in
theorem found_first (w : World) (b : Nat) (P T : List Int) (hc : chkT P T = 0) (h : Tab0 w b P T) :
    Calls Try.prog 41 #[.pointer (some ⟨b, 0, none⟩)] w fun e w' => e = .returned (.pointer (some ⟨b, 0, none⟩)) ∧ TabF w' b P T ∧ Turns [b] w w' := by
  obtain ⟨AP, cP, AT, cT, hB, hP, hT, nP, nT⟩ := h.ex
  have k0 : Turns [b] w (w.setCell ⟨b, 3, none⟩ (.int .i32 1)) := Turns.setCell (Turns.refl [b] w) (.inl (by simp)) _
  have hP1 := hP.turns k0 (fun g hg hm => by simp at hm; exact nP g hg hm)
  have hT1 := hT.turns k0 (fun g hg hm => by simp at hm; exact nT g hg hm)
  have hf := find_any (w.setCell ⟨b, 3, none⟩ (.int .i32 1)) b AP AT cP cT P T hc (hB.set_ 3 (.int .i32 1)) hP1 hT1 nP nT
  have HD := Lib.hid (do_first b 2 (.pointer (some ⟨b, 0, none⟩)) w (fun w2 => TabF (onceEnd b 2 w2) b P T ∧ Turns [b] w (onceEnd b 2 w2)) (hB.cell 2) (hB.cell 3) (hB.free 2) (hB.free 3)
    (hf.mono fun e w2 ⟨he, vL, vU, vN, vS, vM, us, hF⟩ => ⟨he, ⟨hF.blk.cell 2, hF.blk.cell 3, hF.blk.free 2, hF.blk.free 3⟩, (tab_of_find hc hF hP1 hT1 nP nT).1, k0.trans (tab_of_find hc hF hP1 hT1 nP nT).2⟩))
  clear hf hP1 hT1 hB hP hT nP nT k0 hc h
  go_enter Try.func41, Try.ntmps41
  go_wp2_with fail
  refine HD.out.mono ?_
  rintro en w' ⟨rfl, w2, hR, hw⟩
  have HR := Lib.hid (show TabF w' b P T ∧ Turns [b] w w' by rw [hw]; exact hR)
  clear hR hw
  go_wp2
  go_ret
  exact ⟨rfl, HR.out⟩
theorem found_again (w : World) (b : Nat) (P T : List Int) (h : TabF w b P T) :
    Calls Try.prog 41 #[.pointer (some ⟨b, 0, none⟩)] w fun e w' => e = .returned (.pointer (some ⟨b, 0, none⟩)) ∧ w = w' := by
  obtain ⟨AP, cP, AT, cT, vU, vN, vS, vM, us, hB, _⟩ := h.ex
  have c2 := hB.cell 2
  simp only [tabC] at c2
  have HD := Lib.hid (fun fv => do_done b 2 fv w c2)
  clear h hB c2
  go_enter Try.func41, Try.ntmps41
  go_wp2_with fail
  refine (HD.out _).mono ?_
  rintro en w' ⟨rfl, rfl⟩
  go_wp2
  go_ret
  exact ⟨rfl, rfl⟩
end Go.Proofs.Ytnlpghjlhnhkeaa
