/- Joined: Pa8, Pa9, PaB, Hc4, Hl1. -/
import Derived.IntWalk
import Derived.Test.YtkdaiomjbkpedaaGreatMgHmcsU2
import Derived.Test.YtkdaiomjbkpedaaGreatMgHmcsU9
import Derived.Test.YtkdaiomjbkpedaaGreatMgHmcsU12
section
/- path.found: the table, found. -/
namespace Go.Proofs.YtkdaiomjbkpedaaGreat
open Go.RowKit

/-- a table of which all is found -/
structure TabF (w : World) (b : Nat) (P T : List Int) : Prop where
  ok : chkT P T = 0
  ex : ∃ AP cP AT cT vU vN vS vM us, Blk w b 140 (tabC (.slice AP P.length cP) (.slice AT T.length cT) 1 0 vU vN vS vM) ∧ RdL w (.slice AP P.length cP) 1 encI P ∧ RdL w (.slice AT T.length cT) 1 encI T ∧
    RdL w vN 1 encI (nodesTo P T T.length) ∧ RdL w vS 1 encI (slotsTo T T.length) ∧ RdL w vM 1 encI (matesTo P T T.length) ∧
    RdL w vU 1 (fun v => [v]) us ∧ us.length = T.length ∧ ∀ (i : Nat) (x : Int) (v : Value), T[i]? = some x → us[i]? = some v → RdL w v 1 encI (upL P x)
theorem TabF.below {w w' : World} {b : Nat} {P T : List Int} (h : TabF w b P T) (k : Below w.heap.size w w') : TabF w' b P T := by
  obtain ⟨AP, cP, AT, cT, vU, vN, vS, vM, us, h1, h2, h3, h4, h5, h6, h7, h8, h9⟩ := h.ex
  exact ⟨h.ok, AP, cP, AT, cT, vU, vN, vS, vM, us, h1.below k h1.lt, h2.below k (Nat.le_refl _), h3.below k (Nat.le_refl _), h4.below k (Nat.le_refl _), h5.below k (Nat.le_refl _), h6.below k (Nat.le_refl _), h7.below k (Nat.le_refl _), h8, fun i x v a c => (h9 i x v a c).below k (Nat.le_refl _)⟩
theorem tab_of_find {w1 w2 : World} {b : Nat} {AP AT : Option Addr} {cP cT : Nat} {P T : List Int} {vL vU vN vS vM : Value} {us : List ORow} (hc : chkT P T = 0)
    (h : FindIs w1 w2 b (.slice AP P.length cP) (.slice AT T.length cT) P T vL vU vN vS vM us T.length)
    (hP : RdL w1 (.slice AP P.length cP) 1 encI P) (hT : RdL w1 (.slice AT T.length cT) 1 encI T)
    (nP : ∀ g, (Value.slice AP P.length cP).ownBlock = some g → g ≠ b) (nT : ∀ g, (Value.slice AT T.length cT).ownBlock = some g → g ≠ b) :
    TabF (onceEnd b 2 w2) b P T ∧ Turns [b] w1 (onceEnd b 2 w2) := by
  have hml := many_lt (chk_ok hc).1
  have hll : (leavesL P).length ≤ 32 := by have := leavesTo_len P P.length; show (leavesTo P P.length).length ≤ _; omega
  have k0 : Turns [b] w2 (onceEnd b 2 w2) := ((Turns.refl [b] w2).drew.setCell (.inl (by simp)) _).setCell (.inl (by simp)) _
  have k1 := h.bel.trans k0
  have hr : ∀ r ∈ ([intRow vL (leavesL P), intRow vM (matesTo P T T.length), intRow vN (nodesTo P T T.length), intRow vS (slotsTo T T.length), upRow (us.map (·.v)) vU] ++ us), (onceEnd b 2 w2).ownsRow w1.heap.size r.e 1 r.v r.n r.xs := fun r hr => (h.rows.turn k0).own r hr
  refine ⟨⟨hc, AP, cP, AT, cT, vU, vN, vS, vM, us.map (·.v), ?_, hP.turns k1 (fun g hg hm => by simp at hm; exact nP g hg hm), hT.turns k1 (fun g hg hm => by simp at hm; exact nT g hg hm), ?_, ?_, ?_, ?_, by simp [h.len], fun i x v hi hv => ?_⟩, k1⟩
  · exact ((h.blk.drew).set_ 2 (.int .u32 1)).set_ 3 (.int .i32 0)
  · exact own_rdl (hr (intRow vN (nodesTo P T T.length)) (by simp)) (by rw [nodesTo_len (Nat.le_refl _)]; omega)
  · exact own_rdl (hr (intRow vS (slotsTo T T.length)) (by simp)) (by rw [slotsTo_len]; omega)
  · exact own_rdl (hr (intRow vM (matesTo P T T.length)) (by simp)) (by rw [matesTo_len]; omega)
  · have h1 := hr (upRow (us.map (·.v)) vU) (by simp)
    refine RdL.of_own (enc := fun v => [v]) (sz := 1) (fun _ => rfl) rfl (by rw [List.length_map, h.len]; omega) (e := 22) (base := w1.heap.size) ?_
    have e : (us.map (·.v)).flatMap (fun (v : Value) => [v]) = us.map (·.v) := by simp
    rw [e]
    exact h1
  · rw [List.getElem?_map] at hv
    cases hu : us[i]? with
    | none => rw [hu] at hv; cases hv
    | some r =>
      rw [hu] at hv
      injection hv with hv
      subst hv
      have hrr := h.up i x r hi hu
      have ho := hr r (by simp [List.mem_of_getElem? hu])
      rw [hrr] at ho
      exact own_rdl ho (by have := upL_le P x; omega)
set_option maxRecDepth 100000 in
theorem found_first (w : World) (b : Nat) (P T : List Int) (hc : chkT P T = 0) (h : Tab0 w b P T) :
    Calls Tryz.prog 116 #[.pointer (some ⟨b, 0, none⟩)] w fun e w' => e = .returned (.pointer (some ⟨b, 0, none⟩)) ∧ TabF w' b P T ∧ Turns [b] w w' := by
  obtain ⟨AP, cP, AT, cT, hB, hP, hT, nP, nT⟩ := h.ex
  have k0 : Turns [b] w (w.setCell ⟨b, 3, none⟩ (.int .i32 1)) := Turns.setCell (Turns.refl [b] w) (.inl (by simp)) _
  have hP1 := hP.turns k0 (fun g hg hm => by simp at hm; exact nP g hg hm)
  have hT1 := hT.turns k0 (fun g hg hm => by simp at hm; exact nT g hg hm)
  have hf := find_any (w.setCell ⟨b, 3, none⟩ (.int .i32 1)) b AP AT cP cT P T hc (hB.set_ 3 (.int .i32 1)) hP1 hT1 nP nT
  have HD := Lib.hid (do_first b 2 (.pointer (some ⟨b, 0, none⟩)) w (fun w2 => TabF (onceEnd b 2 w2) b P T ∧ Turns [b] w (onceEnd b 2 w2)) (hB.cell 2) (hB.cell 3) (hB.free 2) (hB.free 3)
    (hf.mono fun e w2 ⟨he, vL, vU, vN, vS, vM, us, hF⟩ => ⟨he, ⟨hF.blk.cell 2, hF.blk.cell 3, hF.blk.free 2, hF.blk.free 3⟩, (tab_of_find hc hF hP1 hT1 nP nT).1, k0.trans (tab_of_find hc hF hP1 hT1 nP nT).2⟩))
  clear hf hP1 hT1 hB hP hT nP nT k0 hc h
  go_enter Tryz.func116, Tryz.ntmps116
  go_wp2_with fail
  refine HD.out.mono ?_
  rintro en w' ⟨rfl, w2, hR, hw⟩
  have HR := Lib.hid (show TabF w' b P T ∧ Turns [b] w w' by rw [hw]; exact hR)
  clear hR hw
  go_wp2
  go_ret
  exact ⟨rfl, HR.out⟩
theorem found_again (w : World) (b : Nat) (P T : List Int) (h : TabF w b P T) :
    Calls Tryz.prog 116 #[.pointer (some ⟨b, 0, none⟩)] w fun e w' => e = .returned (.pointer (some ⟨b, 0, none⟩)) ∧ w = w' := by
  obtain ⟨AP, cP, AT, cT, vU, vN, vS, vM, us, hB, _⟩ := h.ex
  have c2 := hB.cell 2
  simp only [tabC] at c2
  have HD := Lib.hid (fun fv => do_done b 2 fv w c2)
  clear h hB c2
  go_enter Tryz.func116, Tryz.ntmps116
  go_wp2_with fail
  refine (HD.out _).mono ?_
  rintro en w' ⟨rfl, rfl⟩
  go_wp2
  go_ret
  exact ⟨rfl, rfl⟩
end Go.Proofs.YtkdaiomjbkpedaaGreat
end
section
/- path.Table's methods. -/
namespace Go.Proofs.YtkdaiomjbkpedaaGreat
open Go.RowKit

/-- a table, found or not -/
def Tab (w : World) (b : Nat) (P T : List Int) : Prop := chkT P T = 0 ∧ (Tab0 w b P T ∨ TabF w b P T)
theorem TabF.tab {w : World} {b : Nat} {P T : List Int} (h : TabF w b P T) : Tab w b P T := ⟨h.ok, .inr h⟩
theorem Tab.lt {w : World} {b : Nat} {P T : List Int} (h : Tab w b P T) : b < w.heap.size := by
  rcases h.2 with ⟨_, _, _, _, h1, _⟩ | ⟨_, _, _, _, _, _, _, _, _, _, h1, _⟩ <;> exact h1.lt
theorem Tab.below {w w' : World} {b : Nat} {P T : List Int} (h : Tab w b P T) (k : Below w.heap.size w w') : Tab w' b P T := by
  refine ⟨h.1, ?_⟩
  rcases h.2 with h0 | h0
  · obtain ⟨AP, cP, AT, cT, h1, h2, h3, h4, h5⟩ := h0.ex
    exact .inl ⟨AP, cP, AT, cT, h1.below k h1.lt, h2.below k (Nat.le_refl _), h3.below k (Nat.le_refl _), h4, h5⟩
  · exact .inr (h0.below k)
theorem found_any (w : World) (b : Nat) (P T : List Int) (h : Tab w b P T) :
    Calls Tryz.prog 116 #[.pointer (some ⟨b, 0, none⟩)] w fun e w' => e = .returned (.pointer (some ⟨b, 0, none⟩)) ∧ TabF w' b P T ∧ Turns [b] w w' := by
  rcases h.2 with h0 | h0
  · exact found_first w b P T h.1 h0
  · exact (found_again w b P T h0).mono fun _ _ ⟨he, hw⟩ => ⟨he, by rw [← hw]; exact h0, by rw [← hw]; exact Turns.refl _ _⟩
/-- the threads' slice, found or not -/
theorem Tab.thr {w : World} {b : Nat} {P T : List Int} (h : Tab w b P T) : ∃ AT cT, w.cell? ⟨b, 1, none⟩ = some (.slice AT T.length cT) := by
  rcases h.2 with h0 | h0
  · obtain ⟨AP, cP, AT, cT, h1, _⟩ := h0.ex
    exact ⟨AT, cT, h1.cell 1⟩
  · obtain ⟨AP, cP, AT, cT, vU, vN, vS, vM, us, h1, _⟩ := h0.ex
    exact ⟨AT, cT, h1.cell 1⟩
theorem threads_any (w : World) (b : Nat) (P T : List Int) (h : Tab w b P T) :
    Calls Tryz.prog 74 #[.pointer (some ⟨b, 0, none⟩)] w fun e w' => e = .returned (.int .i64 (T.length : Nat)) ∧ w = w' := by
  obtain ⟨AT, cT, c1⟩ := h.thr
  clear h
  go_enter Tryz.func74, Tryz.ntmps74
  go_wp2
  go_ret
  exact ⟨rfl, rfl⟩
def hasB (T : List Int) (i : Int) : Bool := decide (0 ≤ i ∧ i < T.length)
theorem has_b (w : World) (b : Nat) (P T : List Int) (i : Int) (r : Bool) (hr : hasB T i = r) (h : Tab w b P T) :
    Calls Tryz.prog 123 #[.pointer (some ⟨b, 0, none⟩), .int .i64 i] w fun e w' => e = .returned (.bool r) ∧ w = w' := by
  have HT := Lib.hid (threads_any w b P T h)
  have HR := Lib.hid hr
  clear h hr
  go_enter Tryz.func123, Tryz.ntmps123
  by_cases h0 : 0 ≤ i
  · go_wp2_with fail
    refine HT.out.mono ?_
    rintro en w' ⟨rfl, rfl⟩
    go_wp2
    go_ret
    exact ⟨ret_bool (by rw [← HR.out]; simp [hasB, h0]), rfl⟩
  · go_wp2
    go_ret
    exact ⟨ret_bool (by rw [← HR.out]; unfold hasB; symm; exact decide_eq_false (by omega)), rfl⟩
theorem nodes_any (w : World) (b : Nat) (P T : List Int) (h : Tab w b P T) :
    Calls Tryz.prog 72 #[.pointer (some ⟨b, 0, none⟩)] w fun e w' => e = .returned (.int .i64 ((leavesL P).length : Nat)) ∧ TabF w' b P T ∧ Turns [b] w w' := by
  have HF := Lib.hid (found_any w b P T h)
  clear h
  go_enter Tryz.func72, Tryz.ntmps72
  go_wp2_with fail
  refine HF.out.mono ?_
  rintro en w' ⟨rfl, hF, hT⟩
  have HTF := Lib.hid (And.intro hF hT)
  obtain ⟨AP, cP, AT, cT, vU, vN, vS, vM, us, h1, h2, h3, h4, h5, h6, h7, h8, h9⟩ := hF.ex
  obtain ⟨AM, cM, rfl, _, _⟩ := rdl_form h6
  have c8 := h1.cell 8
  simp only [tabC, matesTo_len] at c8
  clear hF hT h1 h2 h3 h4 h5 h6 h7 h8 h9
  go_wp2
  go_ret
  exact ⟨rfl, HTF.out⟩
end Go.Proofs.YtkdaiomjbkpedaaGreat
end
section
/- path.New, found, Nodes, Node again, with where the table's rows lie (written by wip/gen_pab.py). -/
namespace Go.Proofs.YtkdaiomjbkpedaaGreat
open Go.RowKit

structure Tab0L (lo : Nat) (w : World) (b : Nat) (P T : List Int) : Prop where
  low : lo ≤ b
  ex : ∃ AP cP AT cT, Blk w b 140 #[.slice AP P.length cP, .slice AT T.length cT, .int .u32 0, .int .i32 0, .int .u32 0, .slice none 0 0, .slice none 0 0, .slice none 0 0, .slice none 0 0] ∧ RdL w (.slice AP P.length cP) 1 encI P ∧ RdL w (.slice AT T.length cT) 1 encI T ∧ (∀ g, (Value.slice AP P.length cP).ownBlock = some g → g ≠ b) ∧ (∀ g, (Value.slice AT T.length cT).ownBlock = some g → g ≠ b) ∧
    (∀ g, (Value.slice AP P.length cP).ownBlock = some g → lo ≤ g) ∧ (∀ g, (Value.slice AT T.length cT).ownBlock = some g → lo ≤ g)
/-- a row that lies in blocks from lo on, below hi -/
def RdB (lo hi : Nat) (w : World) (v : Value) (sz : Nat) {α : Type} (enc : α → List Value) (l : List α) : Prop := RdL w v sz enc l ∧ (0 < l.length → ∀ g, v.ownBlock = some g → lo ≤ g ∧ g < hi)
theorem RdB.keep {lo hi : Nat} {w w' : World} {v : Value} {sz : Nat} {α : Type} {enc : α → List Value} {l : List α} (h : RdB lo hi w v sz enc l) (k : ∀ i, lo ≤ i → i < hi → w'.heap[i]? = w.heap[i]?) (hs : hi ≤ w'.heap.size) : RdB lo hi w' v sz enc l := by
  refine ⟨?_, h.2⟩
  obtain ⟨A, cap, rfl, h2, h3, h4⟩ := h.1
  refine ⟨A, cap, rfl, h2, h3, fun hl => ?_⟩
  obtain ⟨b, off, rfl, hb, hc⟩ := h4 hl
  have hb' := h.2 hl b rfl
  refine ⟨b, off, rfl, by omega, fun i x hx j u hu => ?_⟩
  rw [World.cell?_of_block (w := w) (w' := w') (a := ⟨b, off + i * sz + j, none⟩) (k b hb'.1 hb'.2)]
  exact hc i x hx j u hu
theorem RdB.of {lo hi : Nat} {w : World} {v : Value} {sz : Nat} {α : Type} {enc : α → List Value} {l : List α} (h : RdL w v sz enc l) (h2 : ∀ g, v.ownBlock = some g → lo ≤ g) (hs : hi = w.heap.size) : RdB lo hi w v sz enc l := by
  refine ⟨h, fun hl g hg => ⟨h2 g hg, ?_⟩⟩
  obtain ⟨A, cap, rfl, _, _, h4⟩ := h
  obtain ⟨b, off, rfl, hb, _⟩ := h4 hl
  injection hg with hg
  subst hg
  rw [hs]; exact hb
/-- a table of which all is found, in blocks from lo on, below hi -/
structure TabL (lo hi : Nat) (w : World) (b : Nat) (P T : List Int) : Prop where
  ok : chkT P T = 0
  low : lo ≤ b
  high : b < hi
  ex : ∃ AP cP AT cT vU vN vS vM us, Blk w b 140 (tabC (.slice AP P.length cP) (.slice AT T.length cT) 1 0 vU vN vS vM) ∧ RdB lo hi w (.slice AP P.length cP) 1 encI P ∧ RdB lo hi w (.slice AT T.length cT) 1 encI T ∧
    RdB lo hi w vN 1 encI (nodesTo P T T.length) ∧ RdB lo hi w vS 1 encI (slotsTo T T.length) ∧ RdB lo hi w vM 1 encI (matesTo P T T.length) ∧
    RdB lo hi w vU 1 (fun v => [v]) us ∧ us.length = T.length ∧ ∀ (i : Nat) (x : Int) (v : Value), T[i]? = some x → us[i]? = some v → RdB lo hi w v 1 encI (upL P x)
theorem TabL.f {lo hi : Nat} {w : World} {b : Nat} {P T : List Int} (h : TabL lo hi w b P T) : TabF w b P T := by
  obtain ⟨AP, cP, AT, cT, vU, vN, vS, vM, us, h1, h2, h3, h4, h5, h6, h7, h8, h9⟩ := h.ex
  exact ⟨h.ok, AP, cP, AT, cT, vU, vN, vS, vM, us, h1, h2.1, h3.1, h4.1, h5.1, h6.1, h7.1, h8, fun i x v a c => (h9 i x v a c).1⟩
theorem TabL.keep {lo hi : Nat} {w w' : World} {b : Nat} {P T : List Int} (h : TabL lo hi w b P T) (k : ∀ i, lo ≤ i → i < hi → w'.heap[i]? = w.heap[i]?) (hs : hi ≤ w'.heap.size) : TabL lo hi w' b P T := by
  obtain ⟨AP, cP, AT, cT, vU, vN, vS, vM, us, h1, h2, h3, h4, h5, h6, h7, h8, h9⟩ := h.ex
  exact ⟨h.ok, h.low, h.high, AP, cP, AT, cT, vU, vN, vS, vM, us, (k b h.low h.high).trans h1, h2.keep k hs, h3.keep k hs, h4.keep k hs, h5.keep k hs, h6.keep k hs, h7.keep k hs, h8, fun i x v a c => (h9 i x v a c).keep k hs⟩
set_option maxRecDepth 100000 in
set_option maxHeartbeats 4000000 in
theorem new_yesL (w : World) (vP vT : Value) (P T : List Int) (hP : RdL w vP 1 encI P) (hT : RdL w vT 1 encI T) (hc : chkT P T = 0) :
    Calls Tryz.prog 70 #[.agg #[vP, vT]] w fun e w' => ∃ b, e = .returned (.tuple #[.pointer (some ⟨b, 0, none⟩), .int .i64 0]) ∧ w.heap.size ≤ b ∧ Tab0L w.heap.size w' b P T ∧ Below w.heap.size w w' := by
  have HC := check_any (w.alloc (.cells #[vP, vT] 24)) vP vT P T (hP.alloc _) (hT.alloc _)
  rw [hc] at HC
  have HCC := Lib.hid HC
  have HB0 := Lib.hid ((Below.refl w.heap.size w).alloc (Nat.le_refl _) (.cells #[vP, vT] 24))
  have HPT := Lib.hid (And.intro hP hT)
  have hml := many_lt (chk_ok hc).1
  obtain ⟨AP, cP, rfl, lP1, lP2⟩ := rdl_form hP
  obtain ⟨AT, cT, rfl, lT1, lT2⟩ := rdl_form hT
  have HX := Lib.hid (show (w.alloc (.cells #[.slice AP P.length cP, .slice AT T.length cT] 24)).cell? ⟨w.heap.size, 0, none⟩ = some (.slice AP P.length cP) ∧ (w.alloc (.cells #[.slice AP P.length cP, .slice AT T.length cT] 24)).cell? ⟨w.heap.size, 1, none⟩ = some (.slice AT T.length cT) by simp [World.cell?_alloc_new])
  have hbx : w.heap.size < (w.alloc (.cells #[.slice AP P.length cP, .slice AT T.length cT] 24)).heap.size := by simp
  clear hP hT hc HC
  go_enter Tryz.func70, Tryz.ntmps70
  go_wp2_with fail
  refine HCC.out.mono ?_
  rintro en w1 ⟨rfl, b1⟩
  have f0 := (b1.cell (p := ⟨w.heap.size, 0, none⟩) hbx).trans HX.out.1
  have f1 := (b1.cell (p := ⟨w.heap.size, 1, none⟩) hbx).trans HX.out.2
  have hs1 := b1.size
  simp at hs1
  have HB1 := Lib.hid (HB0.out.trans (b1.mono HB0.out.size))
  have HP1 := Lib.hid (fun W (h : Below w1.heap.size w1 W) => And.intro (HPT.out.1.below (HB1.out.trans (h.mono HB1.out.size)) (Nat.le_refl _)) (HPT.out.2.below (HB1.out.trans (h.mono HB1.out.size)) (Nat.le_refl _)))
  have bd : Below w1.heap.size w1 w1.drew := (Below.refl _ _).drew
  clear b1
  go_wp2_with fail
  go_region_held3 (fun W => W.cell? ⟨w.heap.size, 0, none⟩ = some (.slice AP P.length cP) ∧ W.cell? ⟨w.heap.size, 1, none⟩ = some (.slice AT T.length cT))
    (first | exact ⟨f0, f1⟩ | exact ⟨(k3.cell (p := ⟨w.heap.size, 0, none⟩) (show w.heap.size < w1.heap.size by omega)).trans f0, (k3.cell (p := ⟨w.heap.size, 1, none⟩) (show w.heap.size < w1.heap.size by omega)).trans f1⟩ | exact ⟨(k2.cell (p := ⟨w.heap.size, 0, none⟩) (show w.heap.size < w1.heap.size by omega)).trans f0, (k2.cell (p := ⟨w.heap.size, 1, none⟩) (show w.heap.size < w1.heap.size by omega)).trans f1⟩ | exact ⟨((k3.alloc k3.size _).cell (p := ⟨w.heap.size, 0, none⟩) (show w.heap.size < w1.heap.size by omega)).trans f0, ((k3.alloc k3.size _).cell (p := ⟨w.heap.size, 1, none⟩) (show w.heap.size < w1.heap.size by omega)).trans f1⟩)
    (first
      | (go_at_call 115; with_reducible refine (clone_any _ _ P (HP1.out _ bd).1 (by omega)).mono ?_; rintro e w2 ⟨v2, rfl, o2, b2⟩; obtain ⟨A2, c2, rfl⟩ := own_form o2; (have k2 : Below w1.heap.size w1 w2 := bd.trans (b2.mono (by simp))); have O2 := Lib.hid o2; clear o2)
      | (go_at_call 115; with_reducible refine (clone_any _ _ T (HP1.out _ k2).2 (by omega)).mono ?_; rintro e w3 ⟨v3, rfl, o3, b3⟩; obtain ⟨A3, c3, rfl⟩ := own_form o3; (have k3 : Below w1.heap.size w1 w3 := k2.trans (b3.mono k2.size)); have O3 := Lib.hid o3; clear o3))
  all_goals
    have hs3 := k3.size
    have e2 : ∀ g, (Value.slice A2 P.length c2).ownBlock = some g → g ≠ w3.heap.size := fun g hg => by have := (O2.out.lt g hg).2; have := b3.size; omega
    have e3 : ∀ g, (Value.slice A3 T.length c3).ownBlock = some g → g ≠ w3.heap.size := fun g hg => by have := (O3.out.lt g hg).2; omega
    have HT0 := Lib.hid (show Tab0L w.heap.size (w3.alloc (.cells #[.slice A2 P.length c2, .slice A3 T.length c3, .int .u32 0, .int .i32 0, .int .u32 0, .slice none 0 0, .slice none 0 0, .slice none 0 0, .slice none 0 0] 140)) w3.heap.size P T from
      ⟨Nat.le_trans HB1.out.size hs3, A2, c2, A3, c3, Blk.new _ _ _, (own_rdl (own_below O2.out b3) (by omega)).alloc _, (own_rdl O3.out (by omega)).alloc _, e2, e3, fun g hg => by have h1 : w1.heap.size ≤ g := (O2.out.lt g hg).1; have := HB1.out.size; omega, fun g hg => by have h1 : w2.heap.size ≤ g := (O3.out.lt g hg).1; have := HB1.out.size; have := k2.size; omega⟩)
    have HBE := Lib.hid ((HB1.out.trans (k3.mono HB1.out.size)).alloc (Nat.le_trans HB1.out.size hs3) (.cells #[.slice A2 P.length c2, .slice A3 T.length c3, .int .u32 0, .int .i32 0, .int .u32 0, .slice none 0 0, .slice none 0 0, .slice none 0 0, .slice none 0 0] 140))
    go_wp2
    go_ret2
    exact ⟨_, rfl, Nat.le_trans HB1.out.size hs3, HT0.out, HBE.out⟩
theorem tab_of_findL {w1 w2 : World} {b : Nat} {AP AT : Option Addr} {cP cT : Nat} {P T : List Int} {vL vU vN vS vM : Value} {us : List ORow} (hc : chkT P T = 0)
    (h : FindIs w1 w2 b (.slice AP P.length cP) (.slice AT T.length cT) P T vL vU vN vS vM us T.length)
    (hP : RdL w1 (.slice AP P.length cP) 1 encI P) (hT : RdL w1 (.slice AT T.length cT) 1 encI T)
    (nP : ∀ g, (Value.slice AP P.length cP).ownBlock = some g → g ≠ b) (nT : ∀ g, (Value.slice AT T.length cT).ownBlock = some g → g ≠ b) {lo : Nat} (hlo : lo ≤ b) (hb1 : b < w1.heap.size) (lP : ∀ g, (Value.slice AP P.length cP).ownBlock = some g → lo ≤ g) (lT : ∀ g, (Value.slice AT T.length cT).ownBlock = some g → lo ≤ g) :
    TabL lo (onceEnd b 2 w2).heap.size (onceEnd b 2 w2) b P T ∧ Turns [b] w1 (onceEnd b 2 w2) := by
  have hml := many_lt (chk_ok hc).1
  have hll : (leavesL P).length ≤ 32 := by have := leavesTo_len P P.length; show (leavesTo P P.length).length ≤ _; omega
  have k0 : Turns [b] w2 (onceEnd b 2 w2) := ((Turns.refl [b] w2).drew.setCell (.inl (by simp)) _).setCell (.inl (by simp)) _
  have k1 := h.bel.trans k0
  have hr : ∀ r ∈ ([intRow vL (leavesL P), intRow vM (matesTo P T T.length), intRow vN (nodesTo P T T.length), intRow vS (slotsTo T T.length), upRow (us.map (·.v)) vU] ++ us), (onceEnd b 2 w2).ownsRow w1.heap.size r.e 1 r.v r.n r.xs := fun r hr => (h.rows.turn k0).own r hr
  have hrl : ∀ r ∈ ([intRow vL (leavesL P), intRow vM (matesTo P T T.length), intRow vN (nodesTo P T T.length), intRow vS (slotsTo T T.length), upRow (us.map (·.v)) vU] ++ us), ∀ g, r.v.ownBlock = some g → lo ≤ g := fun r hm g hg => by have := ((hr r hm).lt g hg).1; omega
  refine ⟨⟨hc, hlo, by have := k1.size; omega, AP, cP, AT, cT, vU, vN, vS, vM, us.map (·.v), ?_, RdB.of (hP.turns k1 (fun g hg hm => by simp at hm; exact nP g hg hm)) lP rfl, RdB.of (hT.turns k1 (fun g hg hm => by simp at hm; exact nT g hg hm)) lT rfl, RdB.of ?_ (hrl (intRow vN (nodesTo P T T.length)) (by simp)) rfl, RdB.of ?_ (hrl (intRow vS (slotsTo T T.length)) (by simp)) rfl, RdB.of ?_ (hrl (intRow vM (matesTo P T T.length)) (by simp)) rfl, RdB.of ?_ (hrl (upRow (us.map (·.v)) vU) (by simp)) rfl, by simp [h.len], fun i x v hi hv => ?_⟩, k1⟩
  · exact ((h.blk.drew).set_ 2 (.int .u32 1)).set_ 3 (.int .i32 0)
  · exact own_rdl (hr (intRow vN (nodesTo P T T.length)) (by simp)) (by rw [nodesTo_len (Nat.le_refl _)]; omega)
  · exact own_rdl (hr (intRow vS (slotsTo T T.length)) (by simp)) (by rw [slotsTo_len]; omega)
  · exact own_rdl (hr (intRow vM (matesTo P T T.length)) (by simp)) (by rw [matesTo_len]; omega)
  · have h1 := hr (upRow (us.map (·.v)) vU) (by simp)
    refine RdL.of_own (enc := fun v => [v]) (sz := 1) (fun _ => rfl) rfl (by rw [List.length_map, h.len]; omega) (e := 22) (base := w1.heap.size) ?_
    have e : (us.map (·.v)).flatMap (fun (v : Value) => [v]) = us.map (·.v) := by simp
    rw [e]
    exact h1
  · rw [List.getElem?_map] at hv
    cases hu : us[i]? with
    | none => rw [hu] at hv; cases hv
    | some r =>
      rw [hu] at hv
      injection hv with hv
      subst hv
      have hrr := h.up i x r hi hu
      have ho := hr r (by simp [List.mem_of_getElem? hu])
      rw [hrr] at ho
      refine RdB.of (own_rdl ho (by have := upL_le P x; omega)) (fun g hg => hrl r (by simp [List.mem_of_getElem? hu]) g ?_) rfl
      rw [hrr]; exact hg
theorem found_firstL (lo : Nat) (w : World) (b : Nat) (P T : List Int) (hc : chkT P T = 0) (h : Tab0L lo w b P T) :
    Calls Tryz.prog 116 #[.pointer (some ⟨b, 0, none⟩)] w fun e w' => e = .returned (.pointer (some ⟨b, 0, none⟩)) ∧ TabL lo w'.heap.size w' b P T ∧ Turns [b] w w' := by
  have hlo := h.low
  have hbl : b < w.heap.size := by obtain ⟨_, _, _, _, hB, _⟩ := h.ex; exact hB.lt
  obtain ⟨AP, cP, AT, cT, hB, hP, hT, nP, nT, lP, lT⟩ := h.ex
  have k0 : Turns [b] w (w.setCell ⟨b, 3, none⟩ (.int .i32 1)) := Turns.setCell (Turns.refl [b] w) (.inl (by simp)) _
  have hP1 := hP.turns k0 (fun g hg hm => by simp at hm; exact nP g hg hm)
  have hT1 := hT.turns k0 (fun g hg hm => by simp at hm; exact nT g hg hm)
  have hf := find_any (w.setCell ⟨b, 3, none⟩ (.int .i32 1)) b AP AT cP cT P T hc (hB.set_ 3 (.int .i32 1)) hP1 hT1 nP nT
  have HD := Lib.hid (do_first b 2 (.pointer (some ⟨b, 0, none⟩)) w (fun w2 => TabL lo (onceEnd b 2 w2).heap.size (onceEnd b 2 w2) b P T ∧ Turns [b] w (onceEnd b 2 w2)) (hB.cell 2) (hB.cell 3) (hB.free 2) (hB.free 3)
    (hf.mono fun e w2 ⟨he, vL, vU, vN, vS, vM, us, hF⟩ => ⟨he, ⟨hF.blk.cell 2, hF.blk.cell 3, hF.blk.free 2, hF.blk.free 3⟩, (tab_of_findL hc hF hP1 hT1 nP nT hlo (by simpa [World.setCell] using hbl) lP lT).1, k0.trans (tab_of_findL hc hF hP1 hT1 nP nT hlo (by simpa [World.setCell] using hbl) lP lT).2⟩))
  clear hf hP1 hT1 hB hP hT nP nT lP lT k0 hc h hlo hbl
  go_enter Tryz.func116, Tryz.ntmps116
  go_wp2_with fail
  refine HD.out.mono ?_
  rintro en w' ⟨rfl, w2, hR, hw⟩
  have HR := Lib.hid (show TabL lo w'.heap.size w' b P T ∧ Turns [b] w w' by rw [hw]; exact hR)
  clear hR hw
  go_wp2
  go_ret
  exact ⟨rfl, HR.out⟩
theorem nodesL (lo : Nat) (w : World) (b : Nat) (P T : List Int) (hc : chkT P T = 0) (h : Tab0L lo w b P T) :
    Calls Tryz.prog 72 #[.pointer (some ⟨b, 0, none⟩)] w fun e w' => e = .returned (.int .i64 ((leavesL P).length : Nat)) ∧ TabL lo w'.heap.size w' b P T ∧ Turns [b] w w' := by
  have HF := Lib.hid (found_firstL lo w b P T hc h)
  clear h hc
  go_enter Tryz.func72, Tryz.ntmps72
  go_wp2_with fail
  refine HF.out.mono ?_
  rintro en w' ⟨rfl, hF, hT⟩
  have HTF := Lib.hid (And.intro hF hT)
  obtain ⟨AP, cP, AT, cT, vU, vN, vS, vM, us, h1, h2, h3, h4, h5, h6, h7, h8, h9⟩ := hF.f.ex
  obtain ⟨AM, cM, rfl, _, _⟩ := rdl_form h6
  have c8 := h1.cell 8
  simp only [tabC, matesTo_len] at c8
  clear hF hT h1 h2 h3 h4 h5 h6 h7 h8 h9
  go_wp2
  go_ret
  exact ⟨rfl, HTF.out⟩
theorem nodeF (w : World) (b : Nat) (P T : List Int) (i : Nat) (hi : i < T.length) (h : TabF w b P T) (x : Int) (hx : (nodesTo P T T.length)[i]? = some x) :
    Calls Tryz.prog 86 #[.pointer (some ⟨b, 0, none⟩), .int .i64 i] w fun e w' => e = .returned (.int .i64 x) ∧ w = w' := by
  have HF := Lib.hid (found_again w b P T h)
  have HH := Lib.hid (has_b w b P T i true (decide_eq_true (by omega)) h.tab)
  have HX := Lib.hid hx
  have HTF := Lib.hid h
  clear h hx
  go_enter Tryz.func86, Tryz.ntmps86
  go_wp2_with fail
  refine HH.out.mono ?_
  rintro en w' ⟨rfl, rfl⟩
  go_wp2_with fail
  refine HF.out.mono ?_
  rintro en w' ⟨rfl, rfl⟩
  have hF := HTF.out
  obtain ⟨AP, cP, AT, cT, vU, vN, vS, vM, us, h1, h2, h3, h4, h5, h6, h7, h8, h9⟩ := hF.ex
  have hl : (nodesTo P T T.length).length = T.length := nodesTo_len (Nat.le_refl _)
  obtain ⟨AM, cM, rfl, _, _⟩ := rdl_form h4
  obtain ⟨b1, o1, hA, _, hc1⟩ := rdl_int h4 (by omega)
  subst hA
  have q1 := hc1 i x HX.out
  have c8 := h1.cell 6
  rw [hl] at *
  simp only [tabC] at c8
  clear hF h1 h2 h3 h4 h5 h6 h7 h8 h9 hc1 hl
  go_wp2
  go_ret
  exact ⟨rfl, rfl⟩
end Go.Proofs.YtkdaiomjbkpedaaGreat
end
section
/- Layer 29 (hclh): what any act does; one holder; who is passed; and how long it all lasts. No program in sight. -/
namespace Go.Proofs.YtkdaiomjbkpedaaGreat
open Go

structure HOk (nd n : Nat) (dl : Int) (node : Nat → Nat) (h : Hc) (N : Nat) (G : Nat → List Nat) : Prop where
  iv : HIv nd n node h.ar.W h.D h.S G
  ops : h.ar.ops ≤ N
  dn : ∀ t, dv h.D t ≤ N
  bb : ∀ t, t < n → (sv h.S t).pc = 2 → (sv h.S t).b ≤ dl
/-- what a step of i does -/
structure StH (n : Nat) (node : Nat → Nat) (p p' : Sp) (i : Nat) (Q Q' : List Nat) : Prop where
  row : p.pc = 1 → p'.pc = 5 → ∃ (t : Nat) (d : Int), t < n ∧ node t = node i ∧ 0 ≤ d ∧ p'.a = tokH t d
  stay : p.pc ≠ 4 → p.pc ≠ 11 → Q' = Q
  splice : p.pc = 4 → (∃ r, Q' = Q ++ i :: r) ∧ (p'.pc = 10 → Q = [])
  gone : p.pc = 11 → Q.head? = some i ∧ Q' = Q.tail
  enter : p'.pc = 10 → p.pc ≠ 10 → p.pc = 4 ∨ (p.pc = 5 ∧ Q.head? = some i)
  look : p.pc = 5 → Q.head? = some i → p'.pc = 10
  only : p.pc = 1 ∨ p.pc = 2 ∨ p.pc = 3 ∨ p.pc = 4 ∨ p.pc = 5 ∨ p.pc = 11
  less : p.pc ≠ 5 → p'.pc = p.pc → p'.pc = 2 ∧ p'.b = p.b - 1 ∧ 1 ≤ p'.b
  next : p'.pc = p.pc ∨ (p.pc = 1 ∧ (p'.pc = 2 ∨ p'.pc = 3 ∨ p'.pc = 5)) ∨ (p.pc = 2 ∧ p'.pc = 3) ∨ (p.pc = 3 ∧ p'.pc = 4) ∨ (p.pc = 4 ∧ (p'.pc = 5 ∨ p'.pc = 10)) ∨ (p.pc = 5 ∧ p'.pc = 10) ∨ (p.pc = 11 ∧ p'.pc = 0)
section
variable {nd n N i : Nat} {dl : Int} {node : Nat → Nat} {h : Hc} {G : Nat → List Nat}
theorem goes_iff {p : Sp} : goesH p = true ↔ (p.pc = 1 ∨ p.pc = 2 ∨ p.pc = 3 ∨ p.pc = 4 ∨ p.pc = 5 ∨ p.pc = 11) := by
  unfold goesH
  simp [or_assoc]
theorem HOk.pcs (k : HOk nd n dl node h N G) (hi : i < n) : (sv h.S i).pc = 0 ∨ (sv h.S i).pc = 1 ∨ (sv h.S i).pc = 2 ∨ (sv h.S i).pc = 3 ∨ (sv h.S i).pc = 4 ∨ (sv h.S i).pc = 5 ∨ (sv h.S i).pc = 10 ∨ (sv h.S i).pc = 11 := by
  rcases Classical.em (∀ k, i ∉ G k) with hk | hk
  · have := k.iv.free i hi hk; omega
  · obtain ⟨j, hk⟩ := Classical.not_forall.1 hk
    rcases k.iv.inG (Classical.not_not.1 hk) with h1 | ⟨h0, ⟨_, h1⟩ | ⟨_, h1⟩⟩ <;> omega
theorem isA_W (s : Ar) (f : Int) (n : Nat) (w : Int) : (isA s f n w).W = s.W := by unfold isA; split <;> simp [loadA_W]
theorem isA_ops (s : Ar) (f : Int) (n : Nat) (w : Int) : (isA s f n w).ops ≤ s.ops + 1 := by unfold isA; split <;> simp [loadA_ops]
theorem HOk.bset (k : HOk nd n dl node h N G) (hi : i < n) {p' : Sp} (hb : p'.pc = 2 → p'.b ≤ dl) : ∀ t, t < n → (sv (h.S.set i p') t).pc = 2 → (sv (h.S.set i p') t).b ≤ dl := fun t ht h2 => by
  by_cases e : t = i
  · subst e
    rw [sv_eq (by rw [k.iv.sl]; exact hi)] at h2 ⊢
    exact hb h2
  · rw [sv_ne e] at h2 ⊢; exact k.bb t ht h2
theorem HOk.step (k : HOk nd n dl node h N G) (hN : N < 1000000) (hi : i < n) (hg : goesH (sv h.S i) = true) (x : Ar × List Int × Sp) (hx : x = stepHp nd n dl h (node i) i (sv h.S i)) :
    ∃ G', HOk nd n dl node ⟨x.1, x.2.1, h.S.set i x.2.2⟩ (N + 1) G' ∧ StH n node (sv h.S i) x.2.2 i (G 0) (G' 0) := by
  have hv := k.iv.nn i hi
  have hl1 := ld_lc (W := h.ar.W) (n := n) k.iv.wl hv
  have hs1 := fun y => st_lc (W := h.ar.W) (n := n) k.iv.wl hv y
  have hdn : ∀ t, dv h.D t ≤ (N + 1 : Nat) := fun t => by have := k.dn t; omega
  have hops : ∀ {s : Ar}, s.ops ≤ h.ar.ops + 1 → s.ops ≤ N + 1 := fun hs => by have := k.ops; omega
  rcases goes_iff.1 hg with e | e | e | e | e | e
  · have hx' : x = (swapA h.ar (2 + (node i : Int)) (tokH i (dv h.D i + 1)), h.D,
      if lc h.ar.W (node i) ≠ 0 then { sv h.S i with a := lc h.ar.W (node i), pc := 5 } else if 0 < dl then { sv h.S i with a := lc h.ar.W (node i), b := dl, pc := 2 } else { sv h.S i with a := lc h.ar.W (node i), b := 0, pc := 3 }) := by
      rw [hx]; unfold stepHp; rw [if_pos e, hl1]
    by_cases c : lc h.ar.W (node i) = 0
    · have hx2 : x.2.2 = if 0 < dl then { sv h.S i with a := lc h.ar.W (node i), b := dl, pc := 2 } else { sv h.S i with a := lc h.ar.W (node i), b := 0, pc := 3 } := by rw [hx']; simp only [c, ne_eq, not_true, if_false]
      have hp : (x.2.2.pc = 2 ∧ 0 < x.2.2.b) ∨ x.2.2.pc = 3 := by
        rw [hx2]; split
        · rename_i hdl; exact .inl ⟨rfl, hdl⟩
        · exact .inr rfl
      have hb : x.2.2.pc = 2 → x.2.2.b ≤ dl := by
        rw [hx2]; split
        · intro _; exact Int.le_refl _
        · intro h2; exact absurd h2 (by show ¬ (3 : Int) = 2; decide)
      refine ⟨upd G (i + 1) [i], ⟨?_, by rw [hx']; exact hops (swapA_ops _ _ _), by rw [hx']; exact hdn, k.bset hi hb⟩, ?_⟩
      · have := k.iv.s1a hi e c hp
        show HIv nd n node x.1.W x.2.1 _ _
        rw [show x.1.W = h.ar.W.set (1 + node i) (tokH i (dv h.D i + 1)) by rw [hx']; show (swapA _ _ _).W = _; rw [swapA_W, hs1], show x.2.1 = h.D by rw [hx']]
        exact this
      · have h5 : ¬ x.2.2.pc = 5 := by omega
        refine ⟨fun _ h => absurd h h5, fun _ _ => upd_ne _ _ (by omega), fun h => by omega, fun h => by omega, fun h => by omega, fun h => by omega, .inl e, fun _ h => by omega, by omega⟩
    · have hx2 : x.2.2 = { sv h.S i with a := lc h.ar.W (node i), pc := 5 } := by rw [hx']; simp only [c, ne_eq, not_false_iff, if_true]
      obtain ⟨m, t, hm, ht, hnt, hpa, hiv⟩ := k.iv.s1b (p' := x.2.2) hi e c (by rw [hx2]) (by rw [hx2])
      have h5 : x.2.2.pc = 5 := by rw [hx2]
      refine ⟨upd G (m + 1) (G (m + 1) ++ [i]), ⟨?_, by rw [hx']; exact hops (swapA_ops _ _ _), by rw [hx']; exact hdn, k.bset hi (by omega)⟩, ?_⟩
      · show HIv nd n node x.1.W x.2.1 _ _
        rw [show x.1.W = h.ar.W.set (1 + node i) (tokH i (dv h.D i + 1)) by rw [hx']; show (swapA _ _ _).W = _; rw [swapA_W, hs1], show x.2.1 = h.D by rw [hx']]
        exact hiv
      · exact ⟨fun _ _ => ⟨t, _, k.iv.lt _ t ht, hnt, by have := k.iv.d0 t; omega, hpa⟩, fun _ _ => upd_ne _ _ (by omega), fun h => by omega, fun h => by omega, fun h => by omega, fun h => by omega, .inl e, fun _ h => by omega, by omega⟩
  · have hx' : x = (h.ar, h.D, { sv h.S i with b := (sv h.S i).b - 1, pc := if 0 < (sv h.S i).b - 1 then 2 else 3 }) := by
      rw [hx]; unfold stepHp; rw [if_neg (by omega), if_pos e]
    have hp : (x.2.2.pc = 2 ∧ 0 < x.2.2.b) ∨ x.2.2.pc = 3 := by
      rw [hx']; show ((if _ then (2 : Int) else 3) = 2 ∧ _) ∨ (if _ then (2 : Int) else 3) = 3
      split
      · rename_i hb; exact .inl ⟨rfl, hb⟩
      · exact .inr rfl
    have hb : x.2.2.b = (sv h.S i).b - 1 := by rw [hx']
    have := k.bb i hi e
    refine ⟨G, ⟨?_, by rw [hx']; exact hops (Nat.le_succ _), by rw [hx']; exact hdn, k.bset hi (by omega)⟩, ⟨fun h => by omega, fun _ _ => rfl, fun h => by omega, fun h => by omega, fun h => by omega, fun h => by omega, .inr (.inl e), fun _ h => by omega, by omega⟩⟩
    show HIv nd n node x.1.W x.2.1 _ _
    rw [show x.1.W = h.ar.W by rw [hx'], show x.2.1 = h.D by rw [hx']]
    exact k.iv.s2 hi e hp
  · have hx' : x = (swapA h.ar (2 + (node i : Int)) 0, h.D, { sv h.S i with c := lc h.ar.W (node i), pc := 4 }) := by
      rw [hx]; unfold stepHp; rw [if_neg (by omega), if_neg (by omega), if_pos e, hl1]
    have hp : x.2.2.pc = 4 := by rw [hx']
    refine ⟨G, ⟨?_, by rw [hx']; exact hops (swapA_ops _ _ _), by rw [hx']; exact hdn, k.bset hi (by omega)⟩, ⟨fun h => by omega, fun _ _ => rfl, fun h => by omega, fun h => by omega, fun h => by omega, fun h => by omega, .inr (.inr (.inl e)), fun _ h => by omega, by omega⟩⟩
    show HIv nd n node x.1.W x.2.1 _ _
    rw [show x.1.W = h.ar.W.set (1 + node i) 0 by rw [hx']; show (swapA _ _ _).W = _; rw [swapA_W, hs1], show x.2.1 = h.D by rw [hx']]
    exact k.iv.s3 hi e hp (by rw [hx'])
  · have hx' : x = (swapA h.ar 1 (sv h.S i).c, h.D, { sv h.S i with a := tl h.ar.W, pc := if tl h.ar.W = 0 then 10 else 5 }) := by
      rw [hx]; unfold stepHp; rw [if_neg (by omega), if_neg (by omega), if_neg (by omega), if_pos e, ld_tl1 k.iv.wl]
    have hp : (tl h.ar.W = 0 ∧ x.2.2.pc = 10) ∨ (tl h.ar.W ≠ 0 ∧ x.2.2.pc = 5) := by
      rw [hx']
      by_cases c : tl h.ar.W = 0
      · exact .inl ⟨c, by show (if _ then (10 : Int) else 5) = 10; rw [if_pos c]⟩
      · exact .inr ⟨c, by show (if _ then (10 : Int) else 5) = 5; rw [if_neg c]⟩
    obtain ⟨⟨r, hr⟩, he, hiv⟩ := k.iv.s4 (p' := x.2.2) hi e hp (by rw [hx'])
    refine ⟨spl G i, ⟨?_, by rw [hx']; exact hops (swapA_ops _ _ _), by rw [hx']; exact hdn, k.bset hi (by omega)⟩, ⟨fun h => by omega, fun h => by omega, fun _ => ⟨⟨r, by rw [spl0, hr]⟩, he⟩, fun h => by omega, fun _ _ => .inl e, fun h => by omega, .inr (.inr (.inr (.inl e))), fun _ h => by omega, by omega⟩⟩
    show HIv nd n node x.1.W x.2.1 _ _
    rw [show x.1.W = h.ar.W.set 0 (sv h.S i).c by rw [hx']; show (swapA _ _ _).W = _; rw [swapA_W, st_tl1 k.iv.wl], show x.2.1 = h.D by rw [hx']]
    exact hiv
  · have hx' : x = (isA h.ar (2 + (nd : Int)) n (sv h.S i).a, h.D, { sv h.S i with pc := if isB h.ar.W (2 + (nd : Int)) n (sv h.S i).a then 10 else 5 }) := by
      rw [hx]; unfold stepHp; rw [if_neg (by omega), if_neg (by omega), if_neg (by omega), if_neg (by omega), if_pos e]
    have hW : x.1.W = h.ar.W := by rw [hx']; exact isA_W _ _ _ _
    have hD : x.2.1 = h.D := by rw [hx']
    cases c : isB h.ar.W (2 + (nd : Int)) n (sv h.S i).a
    · have hx2 : x.2.2 = sv h.S i := by
        rw [hx', c]
        exact sp_ext e.symm rfl rfl rfl
      have hnh : ¬ (G 0).head? = some i := fun hf => by rw [k.iv.s5n hf e] at c; cases c
      refine ⟨G, ⟨?_, by rw [hx']; exact hops (isA_ops _ _ _ _), by rw [hD]; exact hdn, k.bset hi (by rw [hx2]; omega)⟩, ⟨fun h => by omega, fun _ _ => rfl, fun h => by omega, fun h => by omega, fun h => by rw [hx2] at h; omega, fun _ hf => absurd hf hnh, .inr (.inr (.inr (.inr (.inl e)))), fun h => absurd e h, by rw [hx2]; exact .inl rfl⟩⟩
      show HIv nd n node x.1.W x.2.1 _ _
      rw [hW, hD]
      exact k.iv.same5 hi hx2
    · have hp : x.2.2.pc = 10 := by rw [hx', c]; rfl
      have hf := k.iv.s5 hi e c
      refine ⟨G, ⟨?_, by rw [hx']; exact hops (isA_ops _ _ _ _), by rw [hD]; exact hdn, k.bset hi (by omega)⟩, ⟨fun h => by omega, fun _ _ => rfl, fun h => by omega, fun h => by omega, fun _ _ => .inr ⟨e, hf⟩, fun _ _ => hp, .inr (.inr (.inr (.inr (.inl e)))), fun h => absurd e h, by omega⟩⟩
      show HIv nd n node x.1.W x.2.1 _ _
      rw [hW, hD]
      exact k.iv.atFrontP hi hf (.inl hp)
  · have hx' : x = (addA h.ar (2 + (nd : Int) + i) 1, h.D.set i (dv h.D i + 1), { sv h.S i with pc := 0 }) := by
      rw [hx]; unfold stepHp; rw [if_neg (by omega), if_neg (by omega), if_neg (by omega), if_neg (by omega), if_neg (by omega)]
    have hp : x.2.2.pc = 0 := by rw [hx']
    have hf := k.iv.atFront hi (.inr e)
    have hdl : i < h.D.length := by have := k.iv.dl; omega
    have hw : IntKind.i64.wrap (ldW h.ar.W (2 + (nd : Int) + i) + 1) = dv h.D i + 1 := by
      rw [ld_tw k.iv.wl hi, k.iv.tw i hi]
      have := k.iv.d0 i; have := k.dn i
      exact IntWalk.i64_in _ (by omega)
    refine ⟨upd G 0 (G 0).tail, ⟨?_, by rw [hx']; exact hops (addA_ops _ _ _), ?_, k.bset hi (by omega)⟩, ⟨fun h => by omega, fun _ h => by omega, fun h => by omega, fun _ => ⟨hf, upd_eq _ _ _⟩, fun h => by omega, fun h => by omega, .inr (.inr (.inr (.inr (.inr e)))), fun _ h => by omega, by omega⟩⟩
    · show HIv nd n node x.1.W x.2.1 _ _
      rw [show x.1.W = h.ar.W.set (1 + nd + i) (dv h.D i + 1) by rw [hx']; show (addA _ _ _).W = _; rw [addA_W, hw, st_tw k.iv.wl hi], show x.2.1 = h.D.set i (dv h.D i + 1) by rw [hx']]
      exact k.iv.s11 hi hf hp _ rfl
    · rw [hx']
      intro t
      show dv (h.D.set i (dv h.D i + 1)) t ≤ _
      rw [dv_set hdl]
      have := k.dn i
      split
      · omega
      · exact hdn t
end
end Go.Proofs.YtkdaiomjbkpedaaGreat
end
section
/- Layer 29 (hclh): how the lock lies in memory; Threads, Spot, Ask, Leave. -/
namespace Go.Proofs.YtkdaiomjbkpedaaGreat
open Go.RowKit

def nodeN (P T : List Int) (i : Nat) : Nat := (idxI (leavesL P) (T.getD i 0)).toNat
structure HcIs (w : World) (l a g q b u lo hi : Nat) (dl : Int) (P T : List Int) (h : Hc) : Prop where
  ar : ArIs w a g h.ar
  lk : Blk w l 73 #[.pointer (some ⟨a, 0, none⟩), .pointer (some ⟨b, 0, none⟩), .int .i64 1, .pointer (some ⟨u, 0, none⟩), .int .i64 dl, .slice (some ⟨q, 0, none⟩) T.length T.length]
  sp : SpIs w q h.S
  tu : TuIs w u a (2 + (leavesL P).length) T.length h.D
  tab : TabL lo hi w b P T
  sl : h.S.length = T.length
  hs : hi ≤ w.heap.size
  nd : [l, a, g, q, u].Nodup
  out : ∀ x ∈ [l, a, g, q, u], x < lo ∨ hi ≤ x
section
variable {w w' : World} {l a g q b u lo hi : Nat} {dl : Int} {P T : List Int} {h : Hc}
theorem HcIs.n32 (k : HcIs w l a g q b u lo hi dl P T h) : 1 ≤ T.length ∧ T.length ≤ 32 ∧ (leavesL P).length ≤ 32 := by
  have := many_lt (chk_ok k.tab.ok).1
  have hll := leavesTo_len P P.length
  exact ⟨this.2.2.1, this.2.2.2, by show (leavesTo P P.length).length ≤ 32; omega⟩
theorem HcIs.next (k : HcIs w l a g q b u lo hi dl P T h) {ar' : Ar} {D' : List Int} {S' : List Sp} (t : Turns [a, g, q, u] w w') (h1 : ArIs w' a g ar') (h2 : SpIs w' q S') (h3 : TuIs w' u a (2 + (leavesL P).length) T.length D') (h4 : S'.length = T.length) : HcIs w' l a g q b u lo hi dl P T ⟨ar', D', S'⟩ := by
  have hnd := k.nd
  refine ⟨h1, t.blk k.lk ?_, h2, h3, k.tab.keep (fun i hi1 hi2 => t.block i (by have := k.hs; omega) fun hm => ?_) (Nat.le_trans k.hs t.size), h4, Nat.le_trans k.hs t.size, k.nd, k.out⟩
  · exact (List.nodup_cons.1 hnd).1
  · have := k.out i (List.mem_cons_of_mem _ hm); omega
theorem HcIs.below (k : HcIs w l a g q b u lo hi dl P T h) (t : Below w.heap.size w w') : HcIs w' l a g q b u lo hi dl P T h := by
  have t0 := Turns.of_below (S := []) t
  exact k.next (t0.mono (by simp)) (k.ar.turns t0 (by simp) (by simp)) (k.sp.turns t0 (by simp)) (k.tu.turns t0 (by simp)) k.sl
/-- the spots alone turn -/
theorem HcIs.spot (k : HcIs w l a g q b u lo hi dl P T h) {S' : List Sp} (hs : SpIs w' q S') (hl : S'.length = T.length) (t : Turns [q] w w') : HcIs w' l a g q b u lo hi dl P T ⟨h.ar, h.D, S'⟩ := by
  have hnd := k.nd
  simp at hnd
  exact k.next (t.mono (by simp)) (k.ar.turns t (by simp; omega) (by simp; omega)) hs (k.tu.turns t (by simp; omega)) hl
theorem HcIs.c0 (k : HcIs w l a g q b u lo hi dl P T h) : w.cell? ⟨l, 0, none⟩ = some (.pointer (some ⟨a, 0, none⟩)) := k.lk.cell 0
theorem HcIs.c1 (k : HcIs w l a g q b u lo hi dl P T h) : w.cell? ⟨l, 1, none⟩ = some (.pointer (some ⟨b, 0, none⟩)) := k.lk.cell 1
theorem HcIs.c2 (k : HcIs w l a g q b u lo hi dl P T h) : w.cell? ⟨l, 2, none⟩ = some (.int .i64 1) := k.lk.cell 2
theorem HcIs.c3 (k : HcIs w l a g q b u lo hi dl P T h) : w.cell? ⟨l, 3, none⟩ = some (.pointer (some ⟨u, 0, none⟩)) := k.lk.cell 3
theorem HcIs.c4 (k : HcIs w l a g q b u lo hi dl P T h) : w.cell? ⟨l, 4, none⟩ = some (.int .i64 dl) := k.lk.cell 4
theorem HcIs.c5 (k : HcIs w l a g q b u lo hi dl P T h) : w.cell? ⟨l, 5, none⟩ = some (.slice (some ⟨q, 0, none⟩) T.length T.length) := k.lk.cell 5
theorem HcIs.spn (k : HcIs w l a g q b u lo hi dl P T h) {i : Nat} (hi : i < T.length) : h.S[i]? = some (sv h.S i) := by
  unfold sv
  rw [List.getD_eq_getElem?_getD, List.getElem?_eq_getElem (by rw [k.sl]; exact hi)]; rfl
theorem threadsH (k : HcIs w l a g q b u lo hi dl P T h) : Calls Tryz.prog 42 #[.pointer (some ⟨l, 0, none⟩)] w fun e w' => e = .returned (.int .i64 T.length) ∧ w = w' := by
  have c5 := k.c5
  clear k
  go_enter Tryz.func42, Tryz.ntmps42
  go_wp2
  go_ret
  exact ⟨rfl, rfl⟩
set_option maxHeartbeats 400000 in
theorem spotH (k : HcIs w l a g q b u lo hi dl P T h) (i : Int) :
    Calls Tryz.prog 14 #[.pointer (some ⟨l, 0, none⟩), .int .i64 i] w fun e w' => e = .returned (spotV (getS h.S i)) ∧ Below w.heap.size w w' := by
  obtain ⟨_, HN, _⟩ := k.n32
  have hsl := k.sl
  by_cases hok : okI h.S i
  · have hp := getS_in hok
    obtain ⟨p, hpp⟩ : ∃ p, p = getS h.S i := ⟨_, rfl⟩
    rw [← hpp] at hp ⊢
    have c2 := k.c5
    have a0 := k.sp.cell hp 0 _ rfl
    have a1 := k.sp.cell hp 1 _ rfl
    have a2 := k.sp.cell hp 2 _ rfl
    have a3 := k.sp.cell hp 3 _ rfl
    simp only [Nat.add_zero] at a0
    obtain ⟨h0, h1⟩ := hok
    rw [hsl] at h1
    obtain ⟨n, rfl⟩ := Int.eq_ofNat_of_zero_le h0
    simp only [Int.toNat_natCast] at a0 a1 a2 a3
    have hs1 := k.lk.lt
    have hs2 := k.sp.lt
    have t2 : ¬ (n : Int) < 0 := by omega
    have t3 : ¬ ((T.length : Nat) : Int) ≤ (n : Int) := by omega
    have t4 : n < T.length := by omega
    have H : Hid (HcIs (w.alloc (.cells #[.int .i64 0, .int .i64 0, .int .i64 0, .int .i64 0] 35)) l a g q b u lo hi dl P T h) := Lib.hid (k.below ((Below.refl _ _).alloc (Nat.le_refl _) _))
    clear k hp hpp h0 h1 hsl
    go_enter Tryz.func14, Tryz.ntmps14
    go_wp2_with (go_at_call 42; refine (threadsH H.out).mono ?_; rintro e w' ⟨rfl, rfl⟩)
    exact bodyPost_ret (results_cell_row (by rfl) _ _ w.heap.size 35 _ (0, 0) _ (by rfl) (heap_alloc_new w _) Tryz.underlying35 rfl (by kernel_rfl)) rfl ⟨rfl, (Below.refl _ _).alloc (Nat.le_refl _) _⟩
  · have H : Hid (HcIs (w.alloc (.cells #[.int .i64 0, .int .i64 0, .int .i64 0, .int .i64 0] 35)) l a g q b u lo hi dl P T h) := Lib.hid (k.below ((Below.refl _ _).alloc (Nat.le_refl _) _))
    rw [getS_out hok]
    unfold okI at hok
    rw [hsl] at hok
    clear k hsl
    by_cases h0 : i < 0
    · go_enter Tryz.func14, Tryz.ntmps14
      go_wp2
      exact bodyPost_ret (results_cell_row (by rfl) _ _ w.heap.size 35 _ (0, 0) _ (by rfl) (heap_alloc_new w _) Tryz.underlying35 rfl (by kernel_rfl)) rfl ⟨rfl, (Below.refl _ _).alloc (Nat.le_refl _) _⟩
    · have t3 : ((T.length : Nat) : Int) ≤ i := by omega
      clear hok
      go_enter Tryz.func14, Tryz.ntmps14
      go_wp2_with (go_at_call 42; refine (threadsH H.out).mono ?_; rintro e w' ⟨rfl, rfl⟩)
      exact bodyPost_ret (results_cell_row (by rfl) _ _ w.heap.size 35 _ (0, 0) _ (by rfl) (heap_alloc_new w _) Tryz.underlying35 rfl (by kernel_rfl)) rfl ⟨rfl, (Below.refl _ _).alloc (Nat.le_refl _) _⟩
def HOp (w : World) (l a g q b u lo hi : Nat) (dl : Int) (P T : List Int) (x : Hc × Bool) (e : Ending) (w' : World) : Prop := e = .returned (.bool x.2) ∧ HcIs w' l a g q b u lo hi dl P T x.1 ∧ Turns [a, g, q, u] w w'
set_option maxHeartbeats 800000 in
theorem beginHc (k : HcIs w l a g q b u lo hi dl P T h) (i from_ to_ : Int) :
    Calls Tryz.prog 75 #[.pointer (some ⟨l, 0, none⟩), .int .i64 i, .int .i64 from_, .int .i64 to_] w (HOp w l a g q b u lo hi dl P T (beginH h i from_ to_)) := by
  have H := Lib.hid k
  obtain ⟨_, hlen, _⟩ := k.n32
  have hsl := k.sl
  by_cases hi : okI h.S i
  · have hp := getS_in hi
    obtain ⟨p, hpp⟩ : ∃ p, p = getS h.S i := ⟨_, rfl⟩
    rw [← hpp] at hp
    have c2 := k.c5
    have a0 := k.sp.cell hp 0 _ rfl
    have f0 := k.sp.free (i.toNat * 4)
    simp only [Nat.add_zero] at a0
    obtain ⟨h0, h1⟩ := id hi
    rw [hsl] at h1
    obtain ⟨n, rfl⟩ := Int.eq_ofNat_of_zero_le h0
    simp only [Int.toNat_natCast] at a0 f0 hp
    have t2 : ¬ (n : Int) < 0 := by omega
    have t3 : ¬ ((T.length : Nat) : Int) ≤ (n : Int) := by omega
    have t4 : n < T.length := by omega
    have HP := Lib.hid (And.intro hi (And.intro hpp hp))
    clear k hp hpp h0 h1 hi hsl
    cases hc : (p.pc != from_)
    · have hb : Hid (beginH h n from_ to_ = (⟨h.ar, h.D, h.S.set n { p with pc := to_ }⟩, true)) := Lib.hid (by
        unfold beginH
        have e : p.pc = from_ := by simpa using hc
        rw [← HP.out.2.1, if_pos ⟨HP.out.1, e⟩]; simp)
      go_enter Tryz.func75, Tryz.ntmps75
      go_wp2_with (go_at_call 42; refine (threadsH H.out).mono ?_; rintro e w' ⟨rfl, rfl⟩)
      go_ret
      rw [hb.out]
      have ht : Turns [q] w (w.setCell ⟨q, n * 4, none⟩ (.int .i64 to_)) := (Turns.refl _ _).setCell (.inl (by simp)) _
      exact ⟨rfl, H.out.spot (H.out.sp.put HP.out.2.2 (j := 0) (by decide) rfl) (by simp [H.out.sl]) ht, ht.mono (by simp)⟩
    · have hb : Hid (beginH h n from_ to_ = (h, false)) := Lib.hid (by
        unfold beginH
        have e : ¬ p.pc = from_ := by simpa using hc
        rw [← HP.out.2.1, if_neg (fun h => e h.2)])
      go_enter Tryz.func75, Tryz.ntmps75
      go_wp2_with (go_at_call 42; refine (threadsH H.out).mono ?_; rintro e w' ⟨rfl, rfl⟩)
      go_ret
      rw [hb.out]
      exact ⟨rfl, H.out, Turns.refl _ _⟩
  · have hb : Hid (beginH h i from_ to_ = (h, false)) := Lib.hid (by
      unfold beginH
      rw [if_neg (fun h => hi h.1)])
    unfold okI at hi
    rw [hsl] at hi
    clear k hsl
    by_cases h0 : i < 0
    · go_enter Tryz.func75, Tryz.ntmps75
      go_wp2
      go_ret
      rw [hb.out]
      exact ⟨rfl, H.out, Turns.refl _ _⟩
    · have t3 : ((T.length : Nat) : Int) ≤ i := by omega
      clear hi
      go_enter Tryz.func75, Tryz.ntmps75
      go_wp2_with (go_at_call 42; refine (threadsH H.out).mono ?_; rintro e w' ⟨rfl, rfl⟩)
      go_ret
      rw [hb.out]
      exact ⟨rfl, H.out, Turns.refl _ _⟩
theorem askHc (k : HcIs w l a g q b u lo hi dl P T h) (i : Int) :
    Calls Tryz.prog 39 #[.pointer (some ⟨l, 0, none⟩), .int .i64 i] w (HOp w l a g q b u lo hi dl P T (beginH h i 0 1)) := by
  obtain ⟨x, hx⟩ : ∃ x, x = beginH h i 0 1 := ⟨_, rfl⟩
  have H := Lib.hid (beginHc k i 0 1)
  rw [← hx] at H ⊢
  obtain ⟨x1, x2⟩ := x
  clear k hx
  go_enter Tryz.func39, Tryz.ntmps39
  go_wp2_with fail
  refine H.out.mono ?_
  rintro en w1 ⟨rfl, h1, t1⟩
  have H1 := Lib.hid (And.intro h1 t1)
  clear h1 t1
  go_wp2
  go_ret
  exact ⟨rfl, H1.out⟩
theorem leaveHc (k : HcIs w l a g q b u lo hi dl P T h) (i : Int) :
    Calls Tryz.prog 41 #[.pointer (some ⟨l, 0, none⟩), .int .i64 i] w (HOp w l a g q b u lo hi dl P T (beginH h i 10 11)) := by
  obtain ⟨x, hx⟩ : ∃ x, x = beginH h i 10 11 := ⟨_, rfl⟩
  have H := Lib.hid (beginHc k i 10 11)
  rw [← hx] at H ⊢
  obtain ⟨x1, x2⟩ := x
  clear k hx
  go_enter Tryz.func41, Tryz.ntmps41
  go_wp2_with fail
  refine H.out.mono ?_
  rintro en w1 ⟨rfl, h1, t1⟩
  have H1 := Lib.hid (And.intro h1 t1)
  clear h1 t1
  go_wp2
  go_ret
  exact ⟨rfl, H1.out⟩
theorem nodeN_at (k : HcIs w l a g q b u lo hi dl P T h) {i : Nat} (hi : i < T.length) : (nodesTo P T T.length)[i]? = some ((nodeN P T i : Nat) : Int) ∧ nodeN P T i < (leavesL P).length := by
  have hm : T.getD i 0 ∈ leavesL P := thr_mem (chk_ok k.tab.ok).2.2.2 (i := i) (by rw [List.getD_eq_getElem?_getD, List.getElem?_eq_getElem hi]; rfl)
  have h1 := idx_nonneg (leavesL P) (T.getD i 0)
  have h0 := h1.1.2 hm
  have h2 := h1.2.1
  unfold nodeN
  refine ⟨?_, by omega⟩
  unfold nodesTo
  rw [List.getElem?_map, List.getElem?_take, if_pos hi, List.getElem?_eq_getElem hi]
  simp only [Option.map_some, Option.some.injEq]
  rw [show T.getD i 0 = T[i] by rw [List.getD_eq_getElem?_getD, List.getElem?_eq_getElem hi]; rfl] at h0 ⊢
  omega
/-- the word of the tail of a thread's node -/
theorem localH (k : HcIs w l a g q b u lo hi dl P T h) (i : Nat) (hi : i < T.length) :
    Calls Tryz.prog 117 #[.pointer (some ⟨l, 0, none⟩), .int .i64 i] w fun e w' => e = .returned (.int .i64 (2 + (nodeN P T i : Nat))) ∧ Qt w w' := by
  obtain ⟨hx, hlt⟩ := nodeN_at k hi
  obtain ⟨_, _, h32⟩ := k.n32
  obtain ⟨v, hv⟩ : ∃ v, v = nodeN P T i := ⟨_, rfl⟩
  rw [← hv] at hx hlt ⊢
  have HN := Lib.hid (fun W (h : TabF W b P T) => nodeF W b P T i hi h v hx)
  have HT := Lib.hid k.tab
  have HS := Lib.hid k.hs
  have c1 := k.c1
  have c2 := k.c2
  have x1 : IntKind.i64.wrap (2 + (v : Int)) = 2 + v := IntWalk.i64_in _ (by omega)
  clear k hv hx
  go_enter Tryz.func117, Tryz.ntmps117
  go_wp2
  go_quiet ((go_at_call 86; exact quiet_left (HN.out _ (HT.out.f.below (Qt.below ⟨_, rfl⟩ _)))))
  go_wp2
  go_ret
  exact ⟨rfl, ⟨_, rfl⟩⟩
end
end Go.Proofs.YtkdaiomjbkpedaaGreat
end
