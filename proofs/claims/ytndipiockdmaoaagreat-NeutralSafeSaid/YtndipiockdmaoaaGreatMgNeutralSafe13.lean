/- Joined: PaC, Pa10, PaDf, Pa11, PaD, Top7, Top8, SmQ. -/
import Derived.Test.YtndipiockdmaoaaGreatRows
import Derived.Test.YtndipiockdmaoaaGreatMgNeutralSafe10
import Derived.Test.YtndipiockdmaoaaGreatMgNeutralSafe11
import Derived.Test.YtndipiockdmaoaaGreatMgNeutralSafe12
section
set_option linter.unusedVariables false
set_option linter.unusedSimpArgs false
/- path: the table's rows in blocks that a predicate tells (written by wip/gen_pac.py). -/
namespace Go.Proofs.YtndipiockdmaoaaGreat
open Go.RowKit

structure Tab0Q (B : Nat → Prop) (w : World) (b : Nat) (P T : List Int) : Prop where
  low : B b
  ex : ∃ AP cP AT cT, Blk w b 134 #[.slice AP P.length cP, .slice AT T.length cT, .int .u32 0, .int .i32 0, .int .u32 0, .slice none 0 0, .slice none 0 0, .slice none 0 0, .slice none 0 0] ∧ RdL w (.slice AP P.length cP) 1 encI P ∧ RdL w (.slice AT T.length cT) 1 encI T ∧ (∀ g, (Value.slice AP P.length cP).ownBlock = some g → g ≠ b) ∧ (∀ g, (Value.slice AT T.length cT).ownBlock = some g → g ≠ b) ∧
    (∀ g, (Value.slice AP P.length cP).ownBlock = some g → B g) ∧ (∀ g, (Value.slice AT T.length cT).ownBlock = some g → B g)
theorem rd_block {α : Type} {w : World} {v : Value} {sz : Nat} {enc : α → List Value} {l : List α} (h : RdL w v sz enc l) (hl : 0 < l.length) {g : Nat} (hg : v.ownBlock = some g) : g < w.heap.size := by
  obtain ⟨A, cap, rfl, _, _, h4⟩ := h
  obtain ⟨b, off, rfl, hb, _⟩ := h4 hl
  injection hg with hg
  subst hg
  exact hb
/-- right behind New -/
theorem Tab0L.q {lo : Nat} {w : World} {b : Nat} {P T : List Int} (hc : chkT P T = 0) (h : Tab0L lo w b P T) : Tab0Q (fun i => lo ≤ i ∧ i < w.heap.size) w b P T := by
  have hml := many_lt (chk_ok hc).1
  obtain ⟨AP, cP, AT, cT, h1, h2, h3, h4, h5, h6, h7⟩ := h.ex
  exact ⟨⟨h.low, h1.lt⟩, AP, cP, AT, cT, h1, h2, h3, h4, h5, fun g hg => ⟨h6 g hg, rd_block h2 (by omega) hg⟩, fun g hg => ⟨h7 g hg, rd_block h3 (by omega) hg⟩⟩
theorem Tab0Q.turns {B : Nat → Prop} {S : List Nat} {w w' : World} {b : Nat} {P T : List Int} (h : Tab0Q B w b P T) (k : Turns S w w') (hS : ∀ i ∈ S, ¬ B i) : Tab0Q B w' b P T := by
  obtain ⟨AP, cP, AT, cT, h1, h2, h3, h4, h5, h6, h7⟩ := h.ex
  exact ⟨h.low, AP, cP, AT, cT, k.blk h1 (fun hm => hS _ hm h.low), h2.turns k (fun g hg hm => hS g hm (h6 g hg)), h3.turns k (fun g hg hm => hS g hm (h7 g hg)), h4, h5, h6, h7⟩
theorem Tab0Q.tab {B : Nat → Prop} {w : World} {b : Nat} {P T : List Int} (hc : chkT P T = 0) (h : Tab0Q B w b P T) : Tab w b P T := by
  obtain ⟨AP, cP, AT, cT, h1, h2, h3, h4, h5, h6, h7⟩ := h.ex
  exact ⟨hc, .inl ⟨AP, cP, AT, cT, h1, h2, h3, h4, h5⟩⟩
def RdQ (B : Nat → Prop) (w : World) (v : Value) (sz : Nat) {α : Type} (enc : α → List Value) (l : List α) : Prop := RdL w v sz enc l ∧ (0 < l.length → ∀ g, v.ownBlock = some g → B g)
theorem RdQ.keep {B : Nat → Prop} {w w' : World} {v : Value} {sz : Nat} {α : Type} {enc : α → List Value} {l : List α} (h : RdQ B w v sz enc l) (k : ∀ i, B i → i < w.heap.size → w'.heap[i]? = w.heap[i]?) (hs : w.heap.size ≤ w'.heap.size) : RdQ B w' v sz enc l := by
  refine ⟨?_, h.2⟩
  obtain ⟨A, cap, rfl, h2, h3, h4⟩ := h.1
  refine ⟨A, cap, rfl, h2, h3, fun hl => ?_⟩
  obtain ⟨b, off, rfl, hb, hc⟩ := h4 hl
  have hb' := h.2 hl b rfl
  refine ⟨b, off, rfl, by omega, fun i x hx j u hu => ?_⟩
  rw [World.cell?_of_block (w := w) (w' := w') (a := ⟨b, off + i * sz + j, none⟩) (k b hb' hb)]
  exact hc i x hx j u hu
theorem RdQ.of {B : Nat → Prop} {w : World} {v : Value} {sz : Nat} {α : Type} {enc : α → List Value} {l : List α} (h : RdL w v sz enc l) (h2 : ∀ g, v.ownBlock = some g → B g) : RdQ B w v sz enc l := ⟨h, fun _ => h2⟩
structure TabQ (B : Nat → Prop) (w : World) (b : Nat) (P T : List Int) : Prop where
  ok : chkT P T = 0
  low : B b
  ex : ∃ AP cP AT cT vU vN vS vM us, Blk w b 134 (tabC (.slice AP P.length cP) (.slice AT T.length cT) 1 0 vU vN vS vM) ∧ RdQ B w (.slice AP P.length cP) 1 encI P ∧ RdQ B w (.slice AT T.length cT) 1 encI T ∧
    RdQ B w vN 1 encI (nodesTo P T T.length) ∧ RdQ B w vS 1 encI (slotsTo T T.length) ∧ RdQ B w vM 1 encI (matesTo P T T.length) ∧
    RdQ B w vU 1 (fun v => [v]) us ∧ us.length = T.length ∧ ∀ (i : Nat) (x : Int) (v : Value), T[i]? = some x → us[i]? = some v → RdQ B w v 1 encI (upL P x)
theorem TabQ.f {B : Nat → Prop} {w : World} {b : Nat} {P T : List Int} (h : TabQ B w b P T) : TabF w b P T := by
  obtain ⟨AP, cP, AT, cT, vU, vN, vS, vM, us, h1, h2, h3, h4, h5, h6, h7, h8, h9⟩ := h.ex
  exact ⟨h.ok, AP, cP, AT, cT, vU, vN, vS, vM, us, h1, h2.1, h3.1, h4.1, h5.1, h6.1, h7.1, h8, fun i x v a c => (h9 i x v a c).1⟩
theorem TabQ.turns {B : Nat → Prop} {S : List Nat} {w w' : World} {b : Nat} {P T : List Int} (h : TabQ B w b P T) (t : Turns S w w') (hS : ∀ i ∈ S, ¬ B i) : TabQ B w' b P T := by
  have k : ∀ i, B i → i < w.heap.size → w'.heap[i]? = w.heap[i]? := fun i hi hl => t.block i hl fun hm => hS i hm hi
  have hs := t.size
  obtain ⟨AP, cP, AT, cT, vU, vN, vS, vM, us, h1, h2, h3, h4, h5, h6, h7, h8, h9⟩ := h.ex
  exact ⟨h.ok, h.low, AP, cP, AT, cT, vU, vN, vS, vM, us, (k b h.low h1.lt).trans h1, h2.keep k hs, h3.keep k hs, h4.keep k hs, h5.keep k hs, h6.keep k hs, h7.keep k hs, h8, fun i x v a c => (h9 i x v a c).keep k hs⟩
theorem RdQ.mono {B C : Nat → Prop} {w : World} {v : Value} {sz : Nat} {α : Type} {enc : α → List Value} {l : List α} (h : RdQ B w v sz enc l) (k : ∀ i, B i → C i) : RdQ C w v sz enc l := ⟨h.1, fun hl g hg => k g (h.2 hl g hg)⟩
theorem TabQ.mono {B C : Nat → Prop} {w : World} {b : Nat} {P T : List Int} (h : TabQ B w b P T) (k : ∀ i, B i → C i) : TabQ C w b P T := by
  obtain ⟨AP, cP, AT, cT, vU, vN, vS, vM, us, h1, h2, h3, h4, h5, h6, h7, h8, h9⟩ := h.ex
  exact ⟨h.ok, k _ h.low, AP, cP, AT, cT, vU, vN, vS, vM, us, h1, h2.mono k, h3.mono k, h4.mono k, h5.mono k, h6.mono k, h7.mono k, h8, fun i x v a c => (h9 i x v a c).mono k⟩
theorem TabQ.size {B : Nat → Prop} {m n : Nat} {w : World} {b : Nat} {P T : List Int} (h : TabQ (fun i => B i ∨ m ≤ i) w b P T) (e : m = n) : TabQ (fun i => B i ∨ n ≤ i) w b P T := by subst e; exact h
theorem tab_of_findQ {w1 w2 : World} {b : Nat} {AP AT : Option Addr} {cP cT : Nat} {P T : List Int} {vL vU vN vS vM : Value} {us : List ORow} (hc : chkT P T = 0)
    (h : FindIs w1 w2 b (.slice AP P.length cP) (.slice AT T.length cT) P T vL vU vN vS vM us T.length)
    (hP : RdL w1 (.slice AP P.length cP) 1 encI P) (hT : RdL w1 (.slice AT T.length cT) 1 encI T)
    (nP : ∀ g, (Value.slice AP P.length cP).ownBlock = some g → g ≠ b) (nT : ∀ g, (Value.slice AT T.length cT).ownBlock = some g → g ≠ b) {B : Nat → Prop} (hlo : B b) (lP : ∀ g, (Value.slice AP P.length cP).ownBlock = some g → B g) (lT : ∀ g, (Value.slice AT T.length cT).ownBlock = some g → B g) :
    TabQ (fun i => B i ∨ w1.heap.size ≤ i) (onceEnd b 2 w2) b P T ∧ Turns [b] w1 (onceEnd b 2 w2) := by
  have hml := many_lt (chk_ok hc).1
  have hll : (leavesL P).length ≤ 32 := by have := leavesTo_len P P.length; show (leavesTo P P.length).length ≤ _; omega
  have k0 : Turns [b] w2 (onceEnd b 2 w2) := ((Turns.refl [b] w2).drew.setCell (.inl (by simp)) _).setCell (.inl (by simp)) _
  have k1 := h.bel.trans k0
  have hr : ∀ r ∈ ([intRow vL (leavesL P), intRow vM (matesTo P T T.length), intRow vN (nodesTo P T T.length), intRow vS (slotsTo T T.length), upRow (us.map (·.v)) vU] ++ us), (onceEnd b 2 w2).ownsRow w1.heap.size r.e 1 r.v r.n r.xs := fun r hr => (h.rows.turn k0).own r hr
  have hrl : ∀ r ∈ ([intRow vL (leavesL P), intRow vM (matesTo P T T.length), intRow vN (nodesTo P T T.length), intRow vS (slotsTo T T.length), upRow (us.map (·.v)) vU] ++ us), ∀ g, r.v.ownBlock = some g → (B g ∨ w1.heap.size ≤ g) := fun r hm g hg => .inr ((hr r hm).lt g hg).1
  refine ⟨⟨hc, .inl hlo, AP, cP, AT, cT, vU, vN, vS, vM, us.map (·.v), ?_, RdQ.of (hP.turns k1 (fun g hg hm => by simp at hm; exact nP g hg hm)) (fun g hg => .inl (lP g hg)), RdQ.of (hT.turns k1 (fun g hg hm => by simp at hm; exact nT g hg hm)) (fun g hg => .inl (lT g hg)), RdQ.of ?_ (hrl (intRow vN (nodesTo P T T.length)) (by simp)), RdQ.of ?_ (hrl (intRow vS (slotsTo T T.length)) (by simp)), RdQ.of ?_ (hrl (intRow vM (matesTo P T T.length)) (by simp)), RdQ.of ?_ (hrl (upRow (us.map (·.v)) vU) (by simp)), by simp [h.len], fun i x v hi hv => ?_⟩, k1⟩
  · exact ((h.blk.drew).set_ 2 (.int .u32 1)).set_ 3 (.int .i32 0)
  · exact own_rdl (hr (intRow vN (nodesTo P T T.length)) (by simp)) (by rw [nodesTo_len (Nat.le_refl _)]; omega)
  · exact own_rdl (hr (intRow vS (slotsTo T T.length)) (by simp)) (by rw [slotsTo_len]; omega)
  · exact own_rdl (hr (intRow vM (matesTo P T T.length)) (by simp)) (by rw [matesTo_len]; omega)
  · have h1 := hr (upRow (us.map (·.v)) vU) (by simp)
    refine RdL.of_own (enc := fun v => [v]) (sz := 1) (fun _ => rfl) rfl (by rw [List.length_map, h.len]; omega) (e := 27) (base := w1.heap.size) ?_
    have e : (us.map (·.v)).flatMap (fun (v : Value) => [v]) = us.map (·.v) := by simp
    rw [e]
    exact h1
  · rw [List.getElem?_map] at hv
    cases hu : us[i]? with
    | none => rw [hu] at hv; cases hv
    | some r =>
      rw [hu] at hv
      injection hv with hv
      subst hv
      have hrr := h.up i x r hi hu
      have ho := hr r (by simp [List.mem_of_getElem? hu])
      rw [hrr] at ho
      refine RdQ.of (own_rdl ho (by have := upL_le P x; omega)) (fun g hg => hrl r (by simp [List.mem_of_getElem? hu]) g ?_)
      rw [hrr]; exact hg
theorem found_firstQ (B : Nat → Prop) (w : World) (b : Nat) (P T : List Int) (hc : chkT P T = 0) (h : Tab0Q B w b P T) :
    Calls Tryz.prog 96 #[.pointer (some ⟨b, 0, none⟩)] w fun e w' => e = .returned (.pointer (some ⟨b, 0, none⟩)) ∧ TabQ (fun i => B i ∨ w.heap.size ≤ i) w' b P T ∧ Turns [b] w w' := by
  have hlo := h.low
  obtain ⟨AP, cP, AT, cT, hB, hP, hT, nP, nT, lP, lT⟩ := h.ex
  have k0 : Turns [b] w (w.setCell ⟨b, 3, none⟩ (.int .i32 1)) := Turns.setCell (Turns.refl [b] w) (.inl (by simp)) _
  have hP1 := hP.turns k0 (fun g hg hm => by simp at hm; exact nP g hg hm)
  have hT1 := hT.turns k0 (fun g hg hm => by simp at hm; exact nT g hg hm)
  have hf := find_any (w.setCell ⟨b, 3, none⟩ (.int .i32 1)) b AP AT cP cT P T hc (hB.set_ 3 (.int .i32 1)) hP1 hT1 nP nT
  have HD := Lib.hid (do_first b 2 (.pointer (some ⟨b, 0, none⟩)) w (fun w2 => TabQ (fun i => B i ∨ w.heap.size ≤ i) (onceEnd b 2 w2) b P T ∧ Turns [b] w (onceEnd b 2 w2)) (hB.cell 2) (hB.cell 3) (hB.free 2) (hB.free 3)
    (hf.mono fun e w2 ⟨he, vL, vU, vN, vS, vM, us, hF⟩ => ⟨he, ⟨hF.blk.cell 2, hF.blk.cell 3, hF.blk.free 2, hF.blk.free 3⟩, (tab_of_findQ hc hF hP1 hT1 nP nT hlo lP lT).1.size (by simp), k0.trans (tab_of_findQ hc hF hP1 hT1 nP nT hlo lP lT).2⟩))
  clear hf hP1 hT1 hB hP hT nP nT lP lT k0 hc h hlo
  go_enter Tryz.func96, Tryz.ntmps96
  go_wp2_with fail
  refine HD.out.mono ?_
  rintro en w' ⟨rfl, w2, hR, hw⟩
  have HR := Lib.hid (show TabQ (fun i => B i ∨ w.heap.size ≤ i) w' b P T ∧ Turns [b] w w' by rw [hw]; exact hR)
  clear hR hw
  go_wp2
  go_ret
  exact ⟨rfl, HR.out⟩
/-- a thread's node, when the table is found by that -/
theorem nodeFst (B : Nat → Prop) (w : World) (b : Nat) (P T : List Int) (hc : chkT P T = 0) (i : Nat) (hi : i < T.length) (h : Tab0Q B w b P T) (x : Int) (hx : (nodesTo P T T.length)[i]? = some x) :
    Calls Tryz.prog 82 #[.pointer (some ⟨b, 0, none⟩), .int .i64 i] w fun e w' => e = .returned (.int .i64 x) ∧ TabQ (fun i => B i ∨ w.heap.size ≤ i) w' b P T ∧ Turns [b] w w' := by
  have HF := Lib.hid (found_firstQ B w b P T hc h)
  have HH := Lib.hid (has_b w b P T i true (decide_eq_true (by omega)) (h.tab hc))
  have HX := Lib.hid hx
  clear h hx
  go_enter Tryz.func82, Tryz.ntmps82
  go_wp2_with fail
  refine HH.out.mono ?_
  rintro en w' ⟨rfl, rfl⟩
  go_wp2_with fail
  refine HF.out.mono ?_
  rintro en w1 ⟨rfl, hF0, t1⟩
  have HTF := Lib.hid (And.intro hF0 t1)
  clear t1
  have hF := hF0.f
  clear hF0
  obtain ⟨AP, cP, AT, cT, vU, vN, vS, vM, us, h1, h2, h3, h4, h5, h6, h7, h8, h9⟩ := hF.ex
  have hl : (nodesTo P T T.length).length = T.length := nodesTo_len (Nat.le_refl _)
  obtain ⟨AM, cM, rfl, _, _⟩ := rdl_form h4
  obtain ⟨b1, o1, hA, _, hc1⟩ := rdl_int h4 (by omega)
  subst hA
  have q1 := hc1 i x HX.out
  have c8 := h1.cell 6
  rw [hl] at *
  simp only [tabC] at c8
  clear hF h1 h2 h3 h4 h5 h6 h7 h8 h9 hc1 hl
  go_wp2
  go_ret
  exact ⟨rfl, HTF.out⟩
end Go.Proofs.YtndipiockdmaoaaGreat
end
section
set_option linter.unusedVariables false
set_option linter.unusedSimpArgs false
/- path.Table: Node, Slot (written by wip/gen_pa10.py). -/
namespace Go.Proofs.YtndipiockdmaoaaGreat
open Go.RowKit

theorem node_any (w : World) (b : Nat) (P T : List Int) (i : Nat) (hi : i < T.length) (h : Tab w b P T) (x : Int) (hx : (nodesTo P T T.length)[i]? = some x) :
    Calls Tryz.prog 82 #[.pointer (some ⟨b, 0, none⟩), .int .i64 i] w fun e w' => e = .returned (.int .i64 x) ∧ TabF w' b P T ∧ Turns [b] w w' := by
  have HF := Lib.hid (found_any w b P T h)
  have HH := Lib.hid (has_b w b P T i true (decide_eq_true (by omega)) h)
  have HX := Lib.hid hx
  clear h hx
  go_enter Tryz.func82, Tryz.ntmps82
  go_wp2_with fail
  refine HH.out.mono ?_
  rintro en w' ⟨rfl, rfl⟩
  go_wp2_with fail
  refine HF.out.mono ?_
  rintro en w' ⟨rfl, hF, hT⟩
  have HTF := Lib.hid (And.intro hF hT)
  obtain ⟨AP, cP, AT, cT, vU, vN, vS, vM, us, h1, h2, h3, h4, h5, h6, h7, h8, h9⟩ := hF.ex
  have hl : (nodesTo P T T.length).length = T.length := nodesTo_len (Nat.le_refl _)
  obtain ⟨AM, cM, rfl, _, _⟩ := rdl_form h4
  obtain ⟨b1, o1, hA, _, hc1⟩ := rdl_int h4 (by omega)
  subst hA
  have q1 := hc1 i x HX.out
  have c8 := h1.cell 6
  rw [hl] at *
  simp only [tabC] at c8
  clear hF hT h1 h2 h3 h4 h5 h6 h7 h8 h9 hc1 hl
  go_wp2
  go_ret
  exact ⟨rfl, HTF.out⟩
theorem node_any_no (w : World) (b : Nat) (P T : List Int) (i : Int) (hi : hasB T i = false) (h : Tab w b P T) :
    Calls Tryz.prog 82 #[.pointer (some ⟨b, 0, none⟩), .int .i64 i] w fun e w' => e = .returned (.int .i64 (-1)) ∧ w = w' := by
  have HH := Lib.hid (has_b w b P T i false hi h)
  clear h hi
  go_enter Tryz.func82, Tryz.ntmps82
  go_wp2_with fail
  refine HH.out.mono ?_
  rintro en w' ⟨rfl, rfl⟩
  go_wp2
  go_ret
  exact ⟨rfl, rfl⟩
theorem slot_any (w : World) (b : Nat) (P T : List Int) (i : Nat) (hi : i < T.length) (h : Tab w b P T) (x : Int) (hx : (slotsTo T T.length)[i]? = some x) :
    Calls Tryz.prog 98 #[.pointer (some ⟨b, 0, none⟩), .int .i64 i] w fun e w' => e = .returned (.int .i64 x) ∧ TabF w' b P T ∧ Turns [b] w w' := by
  have HF := Lib.hid (found_any w b P T h)
  have HH := Lib.hid (has_b w b P T i true (decide_eq_true (by omega)) h)
  have HX := Lib.hid hx
  clear h hx
  go_enter Tryz.func98, Tryz.ntmps98
  go_wp2_with fail
  refine HH.out.mono ?_
  rintro en w' ⟨rfl, rfl⟩
  go_wp2_with fail
  refine HF.out.mono ?_
  rintro en w' ⟨rfl, hF, hT⟩
  have HTF := Lib.hid (And.intro hF hT)
  obtain ⟨AP, cP, AT, cT, vU, vN, vS, vM, us, h1, h2, h3, h4, h5, h6, h7, h8, h9⟩ := hF.ex
  have hl : (slotsTo T T.length).length = T.length := slotsTo_len _ _
  obtain ⟨AM, cM, rfl, _, _⟩ := rdl_form h5
  obtain ⟨b1, o1, hA, _, hc1⟩ := rdl_int h5 (by omega)
  subst hA
  have q1 := hc1 i x HX.out
  have c8 := h1.cell 7
  rw [hl] at *
  simp only [tabC] at c8
  clear hF hT h1 h2 h3 h4 h5 h6 h7 h8 h9 hc1 hl
  go_wp2
  go_ret
  exact ⟨rfl, HTF.out⟩
theorem slot_any_no (w : World) (b : Nat) (P T : List Int) (i : Int) (hi : hasB T i = false) (h : Tab w b P T) :
    Calls Tryz.prog 98 #[.pointer (some ⟨b, 0, none⟩), .int .i64 i] w fun e w' => e = .returned (.int .i64 (-1)) ∧ w = w' := by
  have HH := Lib.hid (has_b w b P T i false hi h)
  clear h hi
  go_enter Tryz.func98, Tryz.ntmps98
  go_wp2_with fail
  refine HH.out.mono ?_
  rintro en w' ⟨rfl, rfl⟩
  go_wp2
  go_ret
  exact ⟨rfl, rfl⟩
end Go.Proofs.YtndipiockdmaoaaGreat
end
section
set_option linter.unusedVariables false
set_option linter.unusedSimpArgs false
/- Layer 7: what a path answers, in plain. -/
namespace Go.Proofs.YtndipiockdmaoaaGreat
open Go.RowKit

def nodeI (P T : List Int) (i : Int) : Int := if hasB T i then idxI (leavesL P) (T.getD i.toNat 0) else -1
def slotI (T : List Int) (i : Int) : Int := if hasB T i then slotOf T i.toNat else -1
def matesI (P T : List Int) (n : Int) : Int := if 0 ≤ n ∧ n < (leavesL P).length then ((T.count ((leavesL P).getD n.toNat 0) : Nat) : Int) else 0
def upI (P T : List Int) (i : Int) : List Int := if hasB T i then upL P (T.getD i.toNat 0) else []
theorem has_nat {T : List Int} {i : Int} (h : hasB T i = true) : ∃ k : Nat, i = k ∧ k < T.length := by
  unfold hasB at h
  have h' := of_decide_eq_true h
  exact ⟨i.toNat, by omega, by omega⟩
end Go.Proofs.YtndipiockdmaoaaGreat
end
section
set_option linter.unusedVariables false
set_option linter.unusedSimpArgs false
/- path.Table: Node, Slot, Mates, Up of any number. -/
namespace Go.Proofs.YtndipiockdmaoaaGreat
open Go.RowKit

/-- a method that leaves a table a table -/
def Tells (w : World) (b : Nat) (P T : List Int) (v : Value) (e : Ending) (w' : World) : Prop := e = .returned v ∧ Tab w' b P T ∧ Turns [b] w w'
theorem nodeT (w : World) (b : Nat) (P T : List Int) (i : Int) (h : Tab w b P T) : Calls Tryz.prog 82 #[.pointer (some ⟨b, 0, none⟩), .int .i64 i] w (Tells w b P T (.int .i64 (nodeI P T i))) := by
  cases hh : hasB T i
  · refine (node_any_no w b P T i hh h).mono ?_
    rintro e w' ⟨rfl, rfl⟩
    exact ⟨by unfold nodeI; rw [hh]; rfl, h, Turns.refl _ _⟩
  · obtain ⟨k, rfl, hk⟩ := has_nat hh
    have hx : (nodesTo P T T.length)[k]? = some (idxI (leavesL P) (T.getD k 0)) := by
      obtain ⟨x, hx⟩ := getElem?_lt hk
      unfold nodesTo
      rw [List.take_length, List.getElem?_map, hx, getD_of hx]; rfl
    refine (node_any w b P T k hk h _ hx).mono ?_
    rintro e w' ⟨rfl, h1, h2⟩
    exact ⟨by unfold nodeI; rw [hh]; simp, h1.tab, h2⟩
theorem slotT (w : World) (b : Nat) (P T : List Int) (i : Int) (h : Tab w b P T) : Calls Tryz.prog 98 #[.pointer (some ⟨b, 0, none⟩), .int .i64 i] w (Tells w b P T (.int .i64 (slotI T i))) := by
  cases hh : hasB T i
  · refine (slot_any_no w b P T i hh h).mono ?_
    rintro e w' ⟨rfl, rfl⟩
    exact ⟨by unfold slotI; rw [hh]; rfl, h, Turns.refl _ _⟩
  · obtain ⟨k, rfl, hk⟩ := has_nat hh
    have hx : (slotsTo T T.length)[k]? = some (slotOf T k) := by unfold slotsTo; simp [hk]
    refine (slot_any w b P T k hk h _ hx).mono ?_
    rintro e w' ⟨rfl, h1, h2⟩
    exact ⟨by unfold slotI; rw [hh]; simp, h1.tab, h2⟩
set_option maxHeartbeats 1000000 in
theorem matesT (w : World) (b : Nat) (P T : List Int) (n : Int) (h : Tab w b P T) : Calls Tryz.prog 52 #[.pointer (some ⟨b, 0, none⟩), .int .i64 n] w (Tells w b P T (.int .i64 (matesI P T n))) := by
  have HN := Lib.hid (nodes_any w b P T h)
  have H := Lib.hid h
  have hll : (leavesL P).length ≤ 32 := by have h1 := (many_lt (chk_ok h.1).1).2.1; have := leavesTo_len P P.length; show (leavesTo P P.length).length ≤ _; omega
  obtain ⟨L, hL⟩ : ∃ L, L = (leavesL P).length := ⟨_, rfl⟩
  rw [← hL] at HN hll
  have HL := Lib.hid hL
  clear h hL
  by_cases h0 : n < 0
  · have HM : Hid (matesI P T n = 0) := Lib.hid (by unfold matesI; rw [if_neg (by omega)])
    go_enter Tryz.func52, Tryz.ntmps52
    go_wp2
    go_ret
    exact ⟨ret_int HM.out.symm, H.out, Turns.refl _ _⟩
  · obtain ⟨k, rfl⟩ := Int.eq_ofNat_of_zero_le (show 0 ≤ n by omega)
    by_cases hk : k < L
    · have HM : Hid (matesI P T k = ((T.count ((leavesL P).getD k 0) : Nat) : Int)) := Lib.hid (by unfold matesI; rw [if_pos (by have := HL.out; omega)]; simp)
      have HX : Hid ((matesTo P T T.length)[k]? = some ((T.count ((leavesL P).getD k 0) : Nat) : Int)) := Lib.hid (by
        obtain ⟨x, hx⟩ := getElem?_lt (show k < (leavesL P).length by have := HL.out; omega)
        unfold matesTo
        rw [List.take_length, List.getElem?_map, hx, getD_of hx]; rfl)
      go_enter Tryz.func52, Tryz.ntmps52
      go_wp2_with fail
      refine HN.out.mono ?_
      rintro en w1 ⟨rfl, hF, hT⟩
      have HTF := Lib.hid (And.intro hF hT)
      have HF := Lib.hid (found_again w1 b P T hF)
      clear hF hT
      go_wp2_with fail
      refine HF.out.mono ?_
      rintro en w2 ⟨rfl, rfl⟩
      obtain ⟨AP, cP, AT, cT, vU, vN, vS, vM, us, h1, h2, h3, h4, h5, h6, h7, h8, h9⟩ := HTF.out.1.ex
      have hl : (matesTo P T T.length).length = L := by rw [matesTo_len]; exact HL.out.symm
      obtain ⟨AM, cM, rfl, _, _⟩ := rdl_form h6
      obtain ⟨b1, o1, hA, _, hc1⟩ := rdl_int h6 (by omega)
      subst hA
      have q1 := hc1 k _ HX.out
      have c8 := h1.cell 8
      rw [hl] at *
      simp only [tabC] at c8
      clear h1 h2 h3 h4 h5 h6 h7 h8 h9 hc1 hl
      go_wp2
      go_ret
      exact ⟨ret_int HM.out.symm, HTF.out.1.tab, HTF.out.2⟩
    · have HM : Hid (matesI P T k = 0) := Lib.hid (by unfold matesI; rw [if_neg (by have := HL.out; omega)])
      go_enter Tryz.func52, Tryz.ntmps52
      go_wp2_with fail
      refine HN.out.mono ?_
      rintro en w1 ⟨rfl, hF, hT⟩
      have HTF := Lib.hid (And.intro hF hT)
      clear hF hT
      go_wp2
      go_ret
      exact ⟨ret_int HM.out.symm, HTF.out.1.tab, HTF.out.2⟩
theorem TabF.upAt {w : World} {b : Nat} {P T : List Int} (h : TabF w b P T) {k : Nat} {x : Int} (hx : T[k]? = some x) :
    ∃ b1 o1 cu A c, w.cell? ⟨b, 5, none⟩ = some (.slice (some ⟨b1, o1, none⟩) T.length cu) ∧ w.cell? ⟨b1, o1 + k, none⟩ = some (.slice A (upL P x).length c) ∧ RdL w (.slice A (upL P x).length c) 1 encI (upL P x) ∧ T.length ≤ cu ∧ b1 < w.heap.size := by
  obtain ⟨AP, cP, AT, cT, vU, vN, vS, vM, us, h1, h2, h3, h4, h5, h6, h7, h8, h9⟩ := h.ex
  have hk := (List.getElem?_eq_some_iff.1 hx).1
  obtain ⟨v, hv⟩ := getElem?_lt (show k < us.length by omega)
  have hr := h9 k x v hx hv
  obtain ⟨A, c, rfl, _, _⟩ := rdl_form hr
  obtain ⟨AU, cU, rfl, m1, m2, m3⟩ := h7
  obtain ⟨b1, o1, rfl, hb, hc⟩ := m3 (by omega)
  have c5 := h1.cell 5
  simp only [tabC, h8] at c5
  exact ⟨b1, o1, cU, A, c, c5, by simpa using hc k _ hv 0 _ rfl, hr, by omega, hb⟩
/-- Up: a list of its own -/
def TellsUp (w : World) (b : Nat) (P T : List Int) (i : Int) (e : Ending) (w' : World) : Prop :=
  ∃ v, e = .returned v ∧ w'.ownsRow w.heap.size 3 1 v (upI P T i).length ((upI P T i).flatMap encI) ∧ Tab w' b P T ∧ Turns [b] w w'
end Go.Proofs.YtndipiockdmaoaaGreat
end
section
set_option linter.unusedVariables false
set_option linter.unusedSimpArgs false
/- path: Mates, when the table is found by that, or was. -/
namespace Go.Proofs.YtndipiockdmaoaaGreat
open Go.RowKit

theorem nodesR (w : World) (b : Nat) (P T : List Int) (R : World → Prop) (hR : ∀ w1, R w1 → TabF w1 b P T) (hf : Calls Tryz.prog 96 #[.pointer (some ⟨b, 0, none⟩)] w fun e w' => e = .returned (.pointer (some ⟨b, 0, none⟩)) ∧ R w') :
    Calls Tryz.prog 51 #[.pointer (some ⟨b, 0, none⟩)] w fun e w' => e = .returned (.int .i64 ((leavesL P).length : Nat)) ∧ R w' := by
  have HF := Lib.hid hf
  have HRR := Lib.hid hR
  clear hf hR
  go_enter Tryz.func51, Tryz.ntmps51
  go_wp2_with fail
  refine HF.out.mono ?_
  rintro en w' ⟨rfl, hr⟩
  have HTF := Lib.hid hr
  obtain ⟨AP, cP, AT, cT, vU, vN, vS, vM, us, h1, h2, h3, h4, h5, h6, h7, h8, h9⟩ := (HRR.out _ hr).ex
  obtain ⟨AM, cM, rfl, _, _⟩ := rdl_form h6
  have c8 := h1.cell 8
  simp only [tabC, matesTo_len] at c8
  clear hr h1 h2 h3 h4 h5 h6 h7 h8 h9
  go_wp2
  go_ret
  exact ⟨rfl, HTF.out⟩
theorem matesR (w : World) (b : Nat) (P T : List Int) (hc : chkT P T = 0) (R : World → Prop) (hR : ∀ w1, R w1 → TabF w1 b P T) (hf : Calls Tryz.prog 96 #[.pointer (some ⟨b, 0, none⟩)] w fun e w' => e = .returned (.pointer (some ⟨b, 0, none⟩)) ∧ R w') {k : Nat} {x : Int} (hk : (leavesL P)[k]? = some x) :
    Calls Tryz.prog 52 #[.pointer (some ⟨b, 0, none⟩), .int .i64 k] w fun e w' => e = .returned (.int .i64 ((T.count x : Nat) : Int)) ∧ R w' := by
  have HN := Lib.hid (nodesR w b P T R hR hf)
  have HRR := Lib.hid hR
  have hll : (leavesL P).length ≤ 32 := by have h1 := (many_lt (chk_ok hc).1).2.1; have := leavesTo_len P P.length; show (leavesTo P P.length).length ≤ _; omega
  have hkl := (List.getElem?_eq_some_iff.1 hk).1
  have HX : Hid ((matesTo P T T.length)[k]? = some ((T.count x : Nat) : Int)) := Lib.hid (by
    unfold matesTo
    rw [List.take_length, List.getElem?_map, hk]; rfl)
  obtain ⟨L, hL⟩ : ∃ L, L = (leavesL P).length := ⟨_, rfl⟩
  rw [← hL] at HN hll hkl
  have HL := Lib.hid hL
  clear hR hf hk hL hc
  go_enter Tryz.func52, Tryz.ntmps52
  go_wp2_with fail
  refine HN.out.mono ?_
  rintro en w1 ⟨rfl, hr⟩
  have HTF := Lib.hid hr
  have HF := Lib.hid (found_again w1 b P T (HRR.out _ hr))
  clear hr
  go_wp2_with fail
  refine HF.out.mono ?_
  rintro en w2 ⟨rfl, rfl⟩
  obtain ⟨AP, cP, AT, cT, vU, vN, vS, vM, us, h1, h2, h3, h4, h5, h6, h7, h8, h9⟩ := (HRR.out _ HTF.out).ex
  have hl : (matesTo P T T.length).length = L := by rw [matesTo_len]; exact HL.out.symm
  obtain ⟨AM, cM, rfl, _, _⟩ := rdl_form h6
  obtain ⟨b1, o1, hA, _, hc1⟩ := rdl_int h6 (by omega)
  subst hA
  have q1 := hc1 k _ HX.out
  have c8 := h1.cell 8
  rw [hl] at *
  simp only [tabC] at c8
  clear h1 h2 h3 h4 h5 h6 h7 h8 h9 hc1 hl
  go_wp2
  go_ret
  exact ⟨rfl, HTF.out⟩
theorem matesFst (B : Nat → Prop) (w : World) (b : Nat) (P T : List Int) (hc : chkT P T = 0) (h : Tab0Q B w b P T) {k : Nat} {x : Int} (hk : (leavesL P)[k]? = some x) :
    Calls Tryz.prog 52 #[.pointer (some ⟨b, 0, none⟩), .int .i64 k] w fun e w' => e = .returned (.int .i64 ((T.count x : Nat) : Int)) ∧ TabQ (fun i => B i ∨ w.heap.size ≤ i) w' b P T ∧ Turns [b] w w' :=
  matesR w b P T hc (fun w' => TabQ (fun i => B i ∨ w.heap.size ≤ i) w' b P T ∧ Turns [b] w w') (fun _ h => h.1.f) (found_firstQ B w b P T hc h) hk
theorem matesF (w : World) (b : Nat) (P T : List Int) (h : TabF w b P T) {k : Nat} {x : Int} (hk : (leavesL P)[k]? = some x) :
    Calls Tryz.prog 52 #[.pointer (some ⟨b, 0, none⟩), .int .i64 k] w fun e w' => e = .returned (.int .i64 ((T.count x : Nat) : Int)) ∧ w = w' :=
  matesR w b P T h.ok (fun w' => w = w') (fun _ e => e ▸ h) (found_again w b P T h) hk
theorem slotF (w : World) (b : Nat) (P T : List Int) (i : Nat) (hi : i < T.length) (h : TabF w b P T) :
    Calls Tryz.prog 98 #[.pointer (some ⟨b, 0, none⟩), .int .i64 i] w fun e w' => e = .returned (.int .i64 (slotOf T i)) ∧ w = w' := by
  have HF := Lib.hid (found_again w b P T h)
  have HH := Lib.hid (has_b w b P T i true (decide_eq_true (by omega)) h.tab)
  have HX : Hid ((slotsTo T T.length)[i]? = some (slotOf T i)) := Lib.hid (by unfold slotsTo; simp [hi])
  have HTF := Lib.hid h
  clear h
  go_enter Tryz.func98, Tryz.ntmps98
  go_wp2_with fail
  refine HH.out.mono ?_
  rintro en w' ⟨rfl, rfl⟩
  go_wp2_with fail
  refine HF.out.mono ?_
  rintro en w' ⟨rfl, rfl⟩
  obtain ⟨AP, cP, AT, cT, vU, vN, vS, vM, us, h1, h2, h3, h4, h5, h6, h7, h8, h9⟩ := HTF.out.ex
  have hl : (slotsTo T T.length).length = T.length := slotsTo_len _ _
  obtain ⟨AM, cM, rfl, _, _⟩ := rdl_form h5
  obtain ⟨b1, o1, hA, _, hc1⟩ := rdl_int h5 (by omega)
  subst hA
  have q1 := hc1 i _ HX.out
  have c8 := h1.cell 7
  rw [hl] at *
  simp only [tabC] at c8
  clear h1 h2 h3 h4 h5 h6 h7 h8 h9 hc1 hl
  go_wp2
  go_ret
  exact ⟨rfl, rfl⟩
theorem RdQ.lt {B : Nat → Prop} {w : World} {v : Value} {sz : Nat} {α : Type} {enc : α → List Value} {l : List α} (h : RdQ B w v sz enc l) : RdQ (fun i => B i ∧ i < w.heap.size) w v sz enc l := ⟨h.1, fun hl g hg => ⟨h.2 hl g hg, rd_block h.1 hl hg⟩⟩
theorem TabQ.lt {B : Nat → Prop} {w : World} {b : Nat} {P T : List Int} (h : TabQ B w b P T) : TabQ (fun i => B i ∧ i < w.heap.size) w b P T := by
  obtain ⟨AP, cP, AT, cT, vU, vN, vS, vM, us, h1, h2, h3, h4, h5, h6, h7, h8, h9⟩ := h.ex
  exact ⟨h.ok, ⟨h.low, h1.lt⟩, AP, cP, AT, cT, vU, vN, vS, vM, us, h1, h2.lt, h3.lt, h4.lt, h5.lt, h6.lt, h7.lt, h8, fun i x v a c => (h9 i x v a c).lt⟩
end Go.Proofs.YtndipiockdmaoaaGreat
end
section
set_option linter.unusedVariables false
set_option linter.unusedSimpArgs false
/- Layer 6, the document's: Has, leaf, deep, Few. -/
namespace Go.Proofs.YtndipiockdmaoaaGreat
open Go.RowKit

set_option maxHeartbeats 1000000 in
theorem has_any (w : World) (v : Value) (l : List Int) (x : Int) (h : RdL w v 1 encI l) :
    Calls Tryz.prog 136 #[v, .int .i64 x] w fun e w' => e = .returned (.bool (decide (x ∈ l))) ∧ w = w' := by
  obtain ⟨A, cap, rfl, l1, l2, hr⟩ := h
  have HR := Lib.hid hr
  clear hr
  go_enter Tryz.func136, Tryz.ntmps136
  go_wp2
  go_loop [5] (fun i => ∃ k : Nat, i = .int .i64 k ∧ k ≤ l.length ∧ x ∉ l.take k) (fun i => l.length - (intOf i).toNat)
  case atStart => exact ⟨0, rfl, by omega, by simp⟩
  case round =>
    obtain ⟨k, rfl, hk, hn⟩ := hrel
    by_cases hlt : k < l.length
    · obtain ⟨bl, off, rfl, hbl, hc⟩ := HR.out (by omega)
      obtain ⟨y, hy⟩ := getElem?_lt hlt
      have c0 := hc k y hy 0 _ rfl
      simp only [Nat.add_zero, Nat.mul_one] at c0
      have HY := Lib.hid (And.intro hy hn)
      clear hc hy hn
      cases hxy : (y == x)
      · have hne : Hid (x ∉ l.take (k + 1)) := Lib.hid (by
          rw [mem_take HY.out.1]
          rintro (h | h)
          · exact HY.out.2 h
          · rw [h] at hxy; simp at hxy)
        go_wp2
        go_round
        case rel => exact ⟨k + 1, by go_num, by omega, hne.out⟩
        case measure => simp [intOf]; omega
      · have hid : Hid (x ∈ l) := Lib.hid (by rw [← beq_iff_eq.1 hxy]; exact List.mem_of_getElem? HY.out.1)
        go_wp2
        go_ret
        exact ⟨ret_bool (decide_eq_true hid.out).symm, rfl⟩
    · obtain rfl : k = l.length := by omega
      rw [List.take_length] at hn
      have hid : Hid (x ∉ l) := Lib.hid hn
      clear hn
      go_wp2
      go_ret
      exact ⟨ret_bool (decide_eq_false hid.out).symm, rfl⟩
theorem rleaf_any (w : World) (v : Value) (P : List Int) (x : Int) (h : RdL w v 1 encI P) :
    Calls Tryz.prog 110 #[v, .int .i64 x] w fun e w' => e = .returned (.bool (leafB P x)) ∧ w = w' := by
  have HH := Lib.hid (has_any w v P x h)
  obtain ⟨A, cap, rfl, l1, l2, hr⟩ := h
  clear hr
  have HL := Lib.hid (show leafB P x = (decide (0 ≤ x) && decide (x < P.length) && !decide (x ∈ P)) from by
    unfold leafB
    by_cases h1 : 0 ≤ x <;> by_cases h2 : x < P.length <;> by_cases h3 : x ∈ P <;> simp [h1, h2, h3])
  go_enter Tryz.func110, Tryz.ntmps110
  cases h1 : decide (0 ≤ x)
  · rw [h1] at HL
    have h1' : ¬ 0 ≤ x := of_decide_eq_false h1
    go_wp2
    go_ret
    exact ⟨ret_bool HL.out.symm, rfl⟩
  · cases h2 : decide (x < P.length)
    · rw [h1, h2] at HL
      have h1' : 0 ≤ x := of_decide_eq_true h1
      have h2' : ¬ x < P.length := of_decide_eq_false h2
      go_wp2
      go_ret
      exact ⟨ret_bool HL.out.symm, rfl⟩
    · rw [h1, h2] at HL
      have h1' : 0 ≤ x := of_decide_eq_true h1
      have h2' : x < P.length := of_decide_eq_true h2
      cases h3 : decide (x ∈ P)
      · rw [h3] at HL HH
        clear h3
        go_wp2_with (go_at_call 136; refine HH.out.mono ?_; rintro e w' ⟨rfl, rfl⟩)
        go_ret
        exact ⟨ret_bool HL.out.symm, rfl⟩
      · rw [h3] at HL HH
        clear h3
        go_wp2_with (go_at_call 136; refine HH.out.mono ?_; rintro e w' ⟨rfl, rfl⟩)
        go_ret
        exact ⟨ret_bool HL.out.symm, rfl⟩
theorem dep_stop {P : List Int} {f : Nat} {v : Int} (h : ¬ (0 ≤ v ∧ v < P.length)) : dep P f v = 0 := by
  cases f with
  | zero => rfl
  | succ f => unfold dep; rw [if_neg h]
theorem dep_go {P : List Int} {f : Nat} {v p : Int} (h0 : 0 ≤ v) (hp : P[v.toNat]? = some p) : dep P (f + 1) v = dep P f p + 1 := by
  have := (List.getElem?_eq_some_iff.1 hp).1
  show (if 0 ≤ v ∧ v < P.length then dep P f (P.getD v.toNat 0) + 1 else 0) = _
  rw [if_pos (by omega), getD_of hp]
set_option maxHeartbeats 1000000 in
theorem rdeep_any (w : World) (v : Value) (P : List Int) (x : Int) (h : RdL w v 1 encI P) :
    Calls Tryz.prog 111 #[v, .int .i64 x] w fun e w' => e = .returned (.int .i64 ((depL P x : Nat) : Int)) ∧ w = w' := by
  obtain ⟨A, cap, rfl, l1, l2, hr⟩ := h
  have HR := Lib.hid hr
  clear hr
  go_enter Tryz.func111, Tryz.ntmps111
  go_wp2
  go_loop [1, 5, 6] (fun y m i => ∃ (k n : Nat) (z : Int), i = .int .i64 k ∧ m = .int .i64 n ∧ y = .int .i64 z ∧ k ≤ P.length ∧ n ≤ k ∧ n + dep P (P.length - k) z = depL P x) (fun _ _ i => P.length - (intOf i).toNat)
  case atStart => exact ⟨0, 0, x, rfl, rfl, rfl, by omega, by omega, by simp [depL]⟩
  case round =>
    obtain ⟨k, n, z, rfl, rfl, rfl, hk, hn, hd⟩ := hrel
    have HD := Lib.hid hd
    clear hd
    by_cases hlt : k < P.length
    · by_cases h0 : 0 ≤ z
      · by_cases h1 : z < P.length
        · obtain ⟨bl, off, rfl, hbl, hc⟩ := HR.out (by omega)
          obtain ⟨m, rfl⟩ := Int.eq_ofNat_of_zero_le h0
          obtain ⟨p, hp⟩ := getElem?_lt (show m < P.length by omega)
          have c0 := hc m p hp 0 _ rfl
          simp only [Nat.add_zero, Nat.mul_one] at c0
          have HN := Lib.hid (show n + 1 + dep P (P.length - (k + 1)) p = depL P x from by
            have := HD.out
            rw [show P.length - k = P.length - (k + 1) + 1 by omega, dep_go (by omega) (by simpa using hp)] at this
            omega)
          clear hc hp
          go_wp2
          go_round
          case rel => exact ⟨k + 1, n + 1, p, by go_num, by go_num, rfl, by omega, by omega, HN.out⟩
          case measure => simp [intOf]; omega
        · have HE := Lib.hid (show n = depL P x from by have := HD.out; rw [dep_stop (by omega)] at this; omega)
          go_wp2
          go_ret
          exact ⟨ret_int (by rw [HE.out]), rfl⟩
      · have HE := Lib.hid (show n = depL P x from by have := HD.out; rw [dep_stop (by omega)] at this; omega)
        go_wp2
        go_ret
        exact ⟨ret_int (by rw [HE.out]), rfl⟩
    · have HE := Lib.hid (show n = depL P x from by have := HD.out; rw [show P.length - k = 0 by omega] at this; exact this)
      go_wp2
      go_ret
      exact ⟨ret_int (by rw [HE.out]), rfl⟩
end Go.Proofs.YtndipiockdmaoaaGreat
end
section
set_option linter.unusedVariables false
set_option linter.unusedSimpArgs false
/- Layer 6, the document's Check, Leaves, Depth. -/
namespace Go.Proofs.YtndipiockdmaoaaGreat
open Go.RowKit

set_option maxRecDepth 100000 in
set_option maxHeartbeats 4000000 in
theorem rcheck_any (w : World) (vP vT : Value) (P T : List Int) (hP : RdL w vP 1 encI P) (hT : RdL w vT 1 encI T) :
    Calls Tryz.prog 66 #[.agg #[vP, vT]] w fun e w' => e = .returned (.int .i64 (chkT P T)) ∧ Below w.heap.size w w' := by
  have hb0 : Below w.heap.size w (w.alloc (.cells #[vP, vT] 29)) := (Below.refl _ _).alloc (Nat.le_refl _) _
  have HB := Lib.hid hb0
  have HPb := Lib.hid (hP.alloc (.cells #[vP, vT] 29))
  have HTb := Lib.hid (hT.alloc (.cells #[vP, vT] 29))
  obtain ⟨AP, cP, rfl, lP1, lP2⟩ := rdl_form hP
  obtain ⟨AT, cT, rfl, lT1, lT2⟩ := rdl_form hT
  clear hP hT hb0
  have c0 : (w.alloc (.cells #[.slice AP P.length cP, .slice AT T.length cT] 29)).cell? ⟨w.heap.size, 0, none⟩ = some (.slice AP P.length cP) := by simp [World.cell?_alloc_new]
  have c1 : (w.alloc (.cells #[.slice AP P.length cP, .slice AT T.length cT] 29)).cell? ⟨w.heap.size, 1, none⟩ = some (.slice AT T.length cT) := by simp [World.cell?_alloc_new]
  go_enter Tryz.func66, Tryz.ntmps66
  go_upto_region 1 with fail
  generalize (w.alloc (.cells #[.slice AP P.length cP, .slice AT T.length cT] 29)) = wb at *
  by_cases a1 : P.length < 1
  · have HE := Lib.hid (chk_many (P := P) (T := T) (decide_eq_true (.inl a1)))
    go_wp2
    go_ret
    exact ⟨ret_int HE.out.symm, HB.out⟩
  by_cases a2 : 32 < P.length
  · have HE := Lib.hid (chk_many (P := P) (T := T) (decide_eq_true (.inr (.inl a2))))
    go_wp2
    go_ret
    exact ⟨ret_int HE.out.symm, HB.out⟩
  by_cases a3 : T.length < 1
  · have HE := Lib.hid (chk_many (P := P) (T := T) (decide_eq_true (.inr (.inr (.inl a3)))))
    go_wp2
    go_ret
    exact ⟨ret_int HE.out.symm, HB.out⟩
  by_cases a4 : 32 < T.length
  · have HE := Lib.hid (chk_many (P := P) (T := T) (decide_eq_true (.inr (.inr (.inr a4)))))
    go_wp2
    go_ret
    exact ⟨ret_int HE.out.symm, HB.out⟩
  have HM := Lib.hid (show manyB P T = false from decide_eq_false (by omega))
  have H0 := Lib.hid (rdl_int HPb.out (by omega))
  obtain ⟨p0, hp0⟩ := getElem?_lt (show 0 < P.length by omega)
  obtain ⟨b, off, hA, hb, hc⟩ := H0.out
  subst hA
  have q0 := hc 0 p0 hp0
  simp only [Nat.add_zero] at q0
  have HC := Lib.hid hc
  have HG0 := Lib.hid hp0
  clear hc hp0 H0
  go_upto_region 3 with fail
  by_cases hz : p0 = -1
  · subst hz
    have HT1 := Lib.hid (show (List.range 1).all (okP P) = true from by
      have := getD_of HG0.out
      show (okP P 0 && true) = true
      rw [Bool.and_true]
      exact decide_eq_true ⟨fun _ => this, fun h => absurd h (by omega)⟩)
    go_wp2
    go_loop [3] (fun i => ∃ k : Nat, i = .int .i64 k ∧ 1 ≤ k ∧ k ≤ P.length ∧ (List.range k).all (okP P) = true) (fun i => P.length - (intOf i).toNat)
    case atStart => exact ⟨1, rfl, by omega, by omega, HT1.out⟩
    case round =>
      obtain ⟨k, rfl, hk1, hk, ha⟩ := hrel
      by_cases hlt : k < P.length
      · obtain ⟨p, hp⟩ := getElem?_lt hlt
        have q1 := HC.out k p hp
        have HP := Lib.hid (And.intro (getD_of hp) ha)
        clear hp ha
        by_cases g0 : p < 0
        · have HN := Lib.hid (chk_tree HM.out (all_false hlt (decide_eq_false (by rw [HP.out.1]; omega))))
          go_wp2
          go_ret
          exact ⟨ret_int HN.out.symm, HB.out⟩
        · by_cases g1 : (k : Int) ≤ p
          · have HN := Lib.hid (chk_tree HM.out (all_false hlt (decide_eq_false (by rw [HP.out.1]; omega))))
            go_wp2
            go_ret
            exact ⟨ret_int HN.out.symm, HB.out⟩
          · have HN := Lib.hid (show (List.range (k + 1)).all (okP P) = true from by
              rw [range_all_succ, HP.out.2, Bool.true_and]
              exact decide_eq_true (by rw [HP.out.1]; omega))
            go_wp2
            go_round
            case rel => exact ⟨k + 1, by go_num, by omega, by omega, HN.out⟩
            case measure => simp [intOf]; omega
      · obtain rfl : k = P.length := by omega
        have HTR := Lib.hid (show treeB P = true from ha)
        clear ha
        go_wp2
        go_loop [4, 5] (fun f i => ∃ k : Nat, i = .int .i64 k ∧ k ≤ P.length ∧ f = .int .i64 (first P k : Nat) ∧ evL P (leavesTo P k) = true) (fun _ i => P.length - (intOf i).toNat)
        case atStart => exact ⟨0, rfl, by omega, rfl, rfl⟩
        case round =>
          obtain ⟨k, rfl, hk, rfl, hev⟩ := hrel
          by_cases hlt : k < P.length
          · have HL := Lib.hid (rleaf_any wb _ P k HPb.out)
            have HEV := Lib.hid hev
            clear hev
            cases hlf : leafB P k
            · have HN := Lib.hid (And.intro (first_skip hlf) (show leavesTo P (k + 1) = leavesTo P k from by rw [leavesTo_succ, hlf]; rfl))
              rw [hlf] at HL
              clear hlf
              go_wp2_with (go_at_call 110; refine HL.out.mono ?_; rintro e w' ⟨rfl, rfl⟩)
              go_round
              case rel => exact ⟨k + 1, by go_num, by omega, by rw [HN.out.1], by rw [HN.out.2]; exact HEV.out⟩
              case measure => simp [intOf]; omega
            · have hst := first_step hlt hlf
              rw [HEV.out, Bool.true_and] at hst
              have HD := Lib.hid (rdeep_any wb _ P k HPb.out)
              rw [hlf] at HL
              have hpos := depL_pos hlt
              obtain ⟨d, hd⟩ : ∃ d, d = depL P k := ⟨_, rfl⟩
              obtain ⟨f, hf⟩ : ∃ f, f = first P k := ⟨_, rfl⟩
              rw [← hd] at HD hst hpos
              rw [← hf] at hst ⊢
              have HST := Lib.hid (And.intro hst (And.intro hd hf))
              have hbd : evL P (leavesTo P (k + 1)) = false → chkT P T = 9 := fun h => chk_even HM.out HTR.out (even_bad (by omega) h)
              have HBD := Lib.hid hbd
              clear hst hd hf hbd hlf
              by_cases f0 : f = 0
              · subst f0
                by_cases g1 : 5 < d
                · have HN := Lib.hid (HBD.out (by rw [HST.out.1.2]; exact decide_eq_false (by omega)))
                  go_wp2_with (first | (go_at_call 110; refine HL.out.mono ?_; rintro e w' ⟨rfl, rfl⟩) | (go_at_call 111; refine HD.out.mono ?_; rintro e w' ⟨rfl, rfl⟩))
                  go_ret
                  exact ⟨ret_int HN.out.symm, HB.out⟩
                · have HF := Lib.hid (show first P (k + 1) = d from by rw [HST.out.1.1]; rfl)
                  have HN := Lib.hid (show evL P (leavesTo P (k + 1)) = true from by rw [HST.out.1.2]; exact decide_eq_true ⟨by rw [HF.out], by omega⟩)
                  go_wp2_with (first | (go_at_call 110; refine HL.out.mono ?_; rintro e w' ⟨rfl, rfl⟩) | (go_at_call 111; refine HD.out.mono ?_; rintro e w' ⟨rfl, rfl⟩))
                  go_round
                  case rel => exact ⟨k + 1, by go_num, by omega, by rw [HF.out], HN.out⟩
                  case measure => simp [intOf]; omega
              · have HF := Lib.hid (show first P (k + 1) = f from by rw [HST.out.1.1, if_neg f0])
                have e0 : (f == 0) = false := by simpa using f0
                have e0' : ((f : Int) == 0) = false := by rw [beq_eq_false_iff_ne]; omega
                by_cases g0 : d = f
                · subst g0
                  by_cases g1 : 5 < d
                  · have HN := Lib.hid (HBD.out (by rw [HST.out.1.2]; exact decide_eq_false (by omega)))
                    go_wp2_with (first | (go_at_call 110; refine HL.out.mono ?_; rintro e w' ⟨rfl, rfl⟩) | (go_at_call 111; refine HD.out.mono ?_; rintro e w' ⟨rfl, rfl⟩))
                    go_ret
                    exact ⟨ret_int HN.out.symm, HB.out⟩
                  · have HN := Lib.hid (show evL P (leavesTo P (k + 1)) = true from by rw [HST.out.1.2]; exact decide_eq_true ⟨by rw [HF.out], by omega⟩)
                    go_wp2_with (first | (go_at_call 110; refine HL.out.mono ?_; rintro e w' ⟨rfl, rfl⟩) | (go_at_call 111; refine HD.out.mono ?_; rintro e w' ⟨rfl, rfl⟩))
                    go_round
                    case rel => exact ⟨k + 1, by go_num, by omega, by rw [HF.out], HN.out⟩
                    case measure => simp [intOf]; omega
                · have HN := Lib.hid (HBD.out (by rw [HST.out.1.2]; exact decide_eq_false (by rw [HF.out]; omega)))
                  have e1 : (d != f) = true := by simpa using g0
                  have e1' : ((d : Int) != (f : Int)) = true := by rw [bne_iff_ne]; omega
                  go_wp2_with (first | (go_at_call 110; refine HL.out.mono ?_; rintro e w' ⟨rfl, rfl⟩) | (go_at_call 111; refine HD.out.mono ?_; rintro e w' ⟨rfl, rfl⟩))
                  go_ret
                  exact ⟨ret_int HN.out.symm, HB.out⟩
          · obtain rfl : k = P.length := by omega
            have HEV := Lib.hid (chk_thr (T := T) HM.out HTR.out hev)
            have HT0 := Lib.hid (rdl_int HTb.out (by omega))
            obtain ⟨bt, offt, hAt, hbt, hct⟩ := HT0.out
            subst hAt
            have HCT := Lib.hid hct
            clear hct hev HT0
            go_wp2
            go_loopw [7] (fun i wr => ∃ j : Nat, i = .int .i64 j ∧ j ≤ T.length ∧ (T.take j).all (leafB P) = true ∧ Qt wb wr) (fun i _ => T.length - (intOf i).toNat)
            case atStart => exact ⟨0, rfl, by omega, rfl, Qt.refl _⟩
            case round =>
              obtain ⟨j, rfl, hj, ha, hq⟩ := hrel
              obtain ⟨wq, rfl⟩ : ∃ wq : World, wq = wr := ⟨_, rfl⟩
              have d0 : wq.cell? ⟨w.heap.size, 0, none⟩ = some (.slice (some ⟨b, off, none⟩) P.length cP) := by obtain ⟨n, rfl⟩ := hq; exact c0
              have d1 : wq.cell? ⟨w.heap.size, 1, none⟩ = some (.slice (some ⟨bt, offt, none⟩) T.length cT) := by obtain ⟨n, rfl⟩ := hq; exact c1
              have HQ := Lib.hid hq
              by_cases hlt2 : j < T.length
              · obtain ⟨x, hx⟩ := getElem?_lt hlt2
                have q2 : wq.cell? ⟨bt, offt + j, none⟩ = some (.int .i64 x) := by obtain ⟨n, rfl⟩ := hq; exact HCT.out j x hx
                have HX := Lib.hid (And.intro hx ha)
                have HL := Lib.hid (fun n => (rleaf_any (wq.drewN n) _ P x ((HPb.out.qt HQ.out).drewN n)).mono fun _ _ h => And.intro h.1 h.2.symm)
                clear hx ha hq
                cases hlf : leafB P x
                · have HN := Lib.hid (show chkT P T = 4 from by
                    rw [HEV.out, if_neg]
                    intro h
                    unfold thrB at h
                    rw [List.all_eq_true] at h
                    rw [h x (List.mem_of_getElem? HX.out.1)] at hlf
                    cases hlf)
                  rw [hlf] at HL
                  clear hlf
                  go_wp2_with fail
                  go_quiet ((go_at_call 110; exact Calls.quiet_of_same (HL.out _)))
                  go_wp2
                  go_ret
                  exact ⟨ret_int HN.out.symm, below_drewN (HB.out.trans ((HQ.out.below _).mono HB.out.size)) _⟩
                · have HN := Lib.hid (show (T.take (j + 1)).all (leafB P) = true from by
                    rw [take_succ_of HX.out.1, List.all_append, HX.out.2]; simp [hlf])
                  rw [hlf] at HL
                  clear hlf
                  go_wp2_with fail
                  go_quiet ((go_at_call 110; exact Calls.quiet_of_same (HL.out _)))
                  go_wp2
                  go_roundw
                  case rel => exact ⟨j + 1, by go_num, by omega, HN.out, HQ.out.trans ⟨_, rfl⟩⟩
                  case measure => simp [intOf]; omega
              · obtain rfl : j = T.length := by omega
                rw [List.take_length] at ha
                have HN := Lib.hid (show chkT P T = 0 from by rw [HEV.out, if_pos (show thrB P T = true from ha)])
                clear ha hq
                go_wp2
                go_ret
                exact ⟨ret_int HN.out.symm, HB.out.trans ((HQ.out.below _).mono HB.out.size)⟩
  · have HN := Lib.hid (chk_tree (P := P) HM.out (all_false (k := 0) (by omega) (decide_eq_false (by rw [getD_of HG0.out]; omega))))
    have e1 : (p0 != -1) = true := by simpa using hz
    clear hz
    go_wp2
    go_ret
    exact ⟨ret_int HN.out.symm, HB.out⟩
end Go.Proofs.YtndipiockdmaoaaGreat
end
section
set_option linter.unusedVariables false
set_option linter.unusedSimpArgs false
/- The document's Small; a budget that may be. (out of XHl5, XHl6: for seats without hclh) -/
namespace Go.Proofs.YtndipiockdmaoaaGreat
open Go.RowKit

theorem rightB (b : Int) (w : World) (h0 : 0 ≤ b) (h1 : b ≤ 1000) : Calls Tryz.prog 44 #[.int .i64 b] w fun e w' => e = .returned (.bool true) ∧ w = w' := by
  have HI : Calls Tryz.prog 88 #[.int .i64 b, .int .i64 0, .int .i64 1000] w fun e w' => e = .returned (.bool true) ∧ w = w' := by
    go_enter Tryz.func88, Tryz.ntmps88
    go_wp2
    go_ret
    exact ⟨rfl, rfl⟩
  have H := Lib.hid HI
  clear HI
  go_enter Tryz.func44, Tryz.ntmps44
  go_wp2_with fail
  refine H.out.mono ?_
  rintro en w1 ⟨rfl, rfl⟩
  go_wp2
  go_ret
  exact ⟨rfl, rfl⟩
def smallB (P T : List Int) (m : Int) : Bool := decide (chkT P T = 0 ∧ (T.length : Int) ≤ m)
set_option maxHeartbeats 1000000 in
theorem smallH (w : World) (vP vT : Value) (P T : List Int) (hP : RdL w vP 1 encI P) (hT : RdL w vT 1 encI T) (m : Int) :
    Calls Tryz.prog 23 #[.agg #[vP, vT], .int .i64 m] w fun e w' => e = .returned (.bool (smallB P T m)) ∧ Below w.heap.size w w' := by
  have HC := Lib.hid (rcheck_any (w.alloc (.cells #[vP, vT] 29)) vP vT P T (hP.alloc _) (hT.alloc _))
  have HB0 := Lib.hid ((Below.refl w.heap.size w).alloc (Nat.le_refl _) (.cells #[vP, vT] 29))
  obtain ⟨AP, cP, rfl, lP1, lP2⟩ := rdl_form hP
  obtain ⟨AT, cT, rfl, lT1, lT2⟩ := rdl_form hT
  have hX : (w.alloc (.cells #[.slice AP P.length cP, .slice AT T.length cT] 29)).cell? ⟨w.heap.size, 1, none⟩ = some (.slice AT T.length cT) := by simp [World.cell?_alloc_new]
  have hbx : w.heap.size < (w.alloc (.cells #[.slice AP P.length cP, .slice AT T.length cT] 29)).heap.size := by simp
  clear hP hT
  by_cases hc : chkT P T = 0
  · have t0 : (chkT P T == 0) = true := by simpa using hc
    have HS : Hid (smallB P T m = decide ((T.length : Int) ≤ m)) := Lib.hid (by unfold smallB; simp [hc])
    clear hc
    go_enter Tryz.func23, Tryz.ntmps23
    go_wp2_with fail
    refine HC.out.mono ?_
    rintro en w1 ⟨rfl, b1⟩
    have f1 := (b1.cell (p := ⟨w.heap.size, 1, none⟩) hbx).trans hX
    have HB1 := Lib.hid (HB0.out.trans (b1.mono HB0.out.size))
    clear b1 hX hbx
    go_wp2
    go_ret
    rw [HS.out]
    exact ⟨rfl, HB1.out⟩
  · have t0 : (chkT P T == 0) = false := by simpa using hc
    have HS : Hid (smallB P T m = false) := Lib.hid (by unfold smallB; simp [hc])
    clear hc hX hbx
    go_enter Tryz.func23, Tryz.ntmps23
    go_wp2_with fail
    refine HC.out.mono ?_
    rintro en w1 ⟨rfl, b1⟩
    have HB1 := Lib.hid (HB0.out.trans (b1.mono HB0.out.size))
    clear b1
    go_wp2
    go_ret
    rw [HS.out]
    exact ⟨rfl, HB1.out⟩
def actV2 (k i : Int) : Value := .agg #[.int .i64 k, .int .i64 i]
/-- a topology that may not be, or has too many threads -/
def SmNo (w : World) (vP vT : Value) (m : Int) : Prop := ∀ W, Below w.heap.size w W → Calls Tryz.prog 23 #[.agg #[vP, vT], .int .i64 m] W fun e w' => e = .returned (.bool false) ∧ Below W.heap.size W w'
theorem SmNo.of {w : World} {vP vT : Value} {P T : List Int} {m : Int} (hP : RdL w vP 1 encI P) (hT : RdL w vT 1 encI T) (hs : smallB P T m = false) : SmNo w vP vT m := fun W b => by
  have := smallH W vP vT P T (hP.below b (Nat.le_refl _)) (hT.below b (Nat.le_refl _)) m
  rw [hs] at this
  exact this
theorem SmNo.below {w w' : World} {vP vT : Value} {m : Int} (h : SmNo w vP vT m) (b : Below w.heap.size w w') : SmNo w' vP vT m := fun W k => h W (b.trans (k.mono b.size))
set_option maxRecDepth 100000 in
theorem rcheck_raw (w : World) (AP AT : Option Addr) (nP cP nT cT : Nat) (h : 32 < nP ∨ 32 < nT) (h1 : nP ≤ 9223372036854775807) (h2 : nT ≤ 9223372036854775807) :
    Calls Tryz.prog 66 #[.agg #[.slice AP nP cP, .slice AT nT cT]] w fun e w' => e = .returned (.int .i64 8) ∧ Below w.heap.size w w' := by
  have HB := Lib.hid ((Below.refl w.heap.size w).alloc (Nat.le_refl _) (.cells #[.slice AP nP cP, .slice AT nT cT] 29))
  have c0 : (w.alloc (.cells #[.slice AP nP cP, .slice AT nT cT] 29)).cell? ⟨w.heap.size, 0, none⟩ = some (.slice AP nP cP) := by simp [World.cell?_alloc_new]
  have c1 : (w.alloc (.cells #[.slice AP nP cP, .slice AT nT cT] 29)).cell? ⟨w.heap.size, 1, none⟩ = some (.slice AT nT cT) := by simp [World.cell?_alloc_new]
  go_enter Tryz.func66, Tryz.ntmps66
  go_upto_region 1 with fail
  generalize (w.alloc (.cells #[.slice AP nP cP, .slice AT nT cT] 29)) = wb at *
  by_cases a1 : nP < 1
  · go_wp2
    go_ret
    exact ⟨rfl, HB.out⟩
  by_cases a2 : 32 < nP
  · go_wp2
    go_ret
    exact ⟨rfl, HB.out⟩
  have a4 : 32 < nT := by omega
  have a3 : ¬ nT < 1 := by omega
  clear h
  go_wp2
  go_ret
  exact ⟨rfl, HB.out⟩
theorem SmNo.raw (w : World) (AP AT : Option Addr) (nP cP nT cT : Nat) (m : Int) (h : 32 < nP ∨ 32 < nT) (h1 : nP ≤ 9223372036854775807) (h2 : nT ≤ 9223372036854775807) : SmNo w (.slice AP nP cP) (.slice AT nT cT) m := fun W _ => by
  have HC := Lib.hid (fun w => rcheck_raw w AP AT nP cP nT cT h h1 h2)
  have HB0 := Lib.hid ((Below.refl W.heap.size W).alloc (Nat.le_refl _) (.cells #[.slice AP nP cP, .slice AT nT cT] 29))
  clear h h1 h2
  go_enter Tryz.func23, Tryz.ntmps23
  go_wp2_with fail
  refine (HC.out _).mono ?_
  rintro en w1 ⟨rfl, b1⟩
  have HB1 := Lib.hid (HB0.out.trans (b1.mono HB0.out.size))
  clear b1
  go_wp2
  go_ret
  exact ⟨rfl, HB1.out⟩
end Go.Proofs.YtndipiockdmaoaaGreat
end
