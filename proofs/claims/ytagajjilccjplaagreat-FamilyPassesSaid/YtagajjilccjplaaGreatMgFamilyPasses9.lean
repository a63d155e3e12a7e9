/- Joined: PaC, Pa10, PaDf, Pa11, PaD, Top7, Top8, SmQ, Qu3, Co2, CoV, CoW. -/
import Derived.Test.YtagajjilccjplaaGreatRows
import Derived.Deep.RegionLaw
import Derived.Test.YtagajjilccjplaaGreatMgFamilyPasses1
import Derived.Test.YtagajjilccjplaaGreatMgFamilyPasses2
import Derived.Test.YtagajjilccjplaaGreatMgFamilyPasses6
import Derived.Test.YtagajjilccjplaaGreatMgFamilyPasses7
import Derived.Test.YtagajjilccjplaaGreatMgFamilyPasses8
section
set_option linter.unusedVariables false
set_option linter.unusedSimpArgs false
/- path: the table's rows in blocks that a predicate tells (written by wip/gen_pac.py). -/
namespace Go.Proofs.YtagajjilccjplaaGreat
open Go.RowKit

structure Tab0Q (B : Nat → Prop) (w : World) (b : Nat) (P T : List Int) : Prop where
  low : B b
  ex : ∃ AP cP AT cT, Blk w b 129 #[.slice AP P.length cP, .slice AT T.length cT, .int .u32 0, .int .i32 0, .int .u32 0, .slice none 0 0, .slice none 0 0, .slice none 0 0, .slice none 0 0] ∧ RdL w (.slice AP P.length cP) 1 encI P ∧ RdL w (.slice AT T.length cT) 1 encI T ∧ (∀ g, (Value.slice AP P.length cP).ownBlock = some g → g ≠ b) ∧ (∀ g, (Value.slice AT T.length cT).ownBlock = some g → g ≠ b) ∧
    (∀ g, (Value.slice AP P.length cP).ownBlock = some g → B g) ∧ (∀ g, (Value.slice AT T.length cT).ownBlock = some g → B g)
theorem rd_block {α : Type} {w : World} {v : Value} {sz : Nat} {enc : α → List Value} {l : List α} (h : RdL w v sz enc l) (hl : 0 < l.length) {g : Nat} (hg : v.ownBlock = some g) : g < w.heap.size := by
  obtain ⟨A, cap, rfl, _, _, h4⟩ := h
  obtain ⟨b, off, rfl, hb, _⟩ := h4 hl
  injection hg with hg
  subst hg
  exact hb
/-- right behind New -/
theorem Tab0L.q {lo : Nat} {w : World} {b : Nat} {P T : List Int} (hc : chkT P T = 0) (h : Tab0L lo w b P T) : Tab0Q (fun i => lo ≤ i ∧ i < w.heap.size) w b P T := by
  have hml := many_lt (chk_ok hc).1
  obtain ⟨AP, cP, AT, cT, h1, h2, h3, h4, h5, h6, h7⟩ := h.ex
  exact ⟨⟨h.low, h1.lt⟩, AP, cP, AT, cT, h1, h2, h3, h4, h5, fun g hg => ⟨h6 g hg, rd_block h2 (by omega) hg⟩, fun g hg => ⟨h7 g hg, rd_block h3 (by omega) hg⟩⟩
theorem Tab0Q.turns {B : Nat → Prop} {S : List Nat} {w w' : World} {b : Nat} {P T : List Int} (h : Tab0Q B w b P T) (k : Turns S w w') (hS : ∀ i ∈ S, ¬ B i) : Tab0Q B w' b P T := by
  obtain ⟨AP, cP, AT, cT, h1, h2, h3, h4, h5, h6, h7⟩ := h.ex
  exact ⟨h.low, AP, cP, AT, cT, k.blk h1 (fun hm => hS _ hm h.low), h2.turns k (fun g hg hm => hS g hm (h6 g hg)), h3.turns k (fun g hg hm => hS g hm (h7 g hg)), h4, h5, h6, h7⟩
theorem Tab0Q.tab {B : Nat → Prop} {w : World} {b : Nat} {P T : List Int} (hc : chkT P T = 0) (h : Tab0Q B w b P T) : Tab w b P T := by
  obtain ⟨AP, cP, AT, cT, h1, h2, h3, h4, h5, h6, h7⟩ := h.ex
  exact ⟨hc, .inl ⟨AP, cP, AT, cT, h1, h2, h3, h4, h5⟩⟩
def RdQ (B : Nat → Prop) (w : World) (v : Value) (sz : Nat) {α : Type} (enc : α → List Value) (l : List α) : Prop := RdL w v sz enc l ∧ (0 < l.length → ∀ g, v.ownBlock = some g → B g)
theorem RdQ.keep {B : Nat → Prop} {w w' : World} {v : Value} {sz : Nat} {α : Type} {enc : α → List Value} {l : List α} (h : RdQ B w v sz enc l) (k : ∀ i, B i → i < w.heap.size → w'.heap[i]? = w.heap[i]?) (hs : w.heap.size ≤ w'.heap.size) : RdQ B w' v sz enc l := by
  refine ⟨?_, h.2⟩
  obtain ⟨A, cap, rfl, h2, h3, h4⟩ := h.1
  refine ⟨A, cap, rfl, h2, h3, fun hl => ?_⟩
  obtain ⟨b, off, rfl, hb, hc⟩ := h4 hl
  have hb' := h.2 hl b rfl
  refine ⟨b, off, rfl, by omega, fun i x hx j u hu => ?_⟩
  rw [World.cell?_of_block (w := w) (w' := w') (a := ⟨b, off + i * sz + j, none⟩) (k b hb' hb)]
  exact hc i x hx j u hu
theorem RdQ.of {B : Nat → Prop} {w : World} {v : Value} {sz : Nat} {α : Type} {enc : α → List Value} {l : List α} (h : RdL w v sz enc l) (h2 : ∀ g, v.ownBlock = some g → B g) : RdQ B w v sz enc l := ⟨h, fun _ => h2⟩
structure TabQ (B : Nat → Prop) (w : World) (b : Nat) (P T : List Int) : Prop where
  ok : chkT P T = 0
  low : B b
  ex : ∃ AP cP AT cT vU vN vS vM us, Blk w b 129 (tabC (.slice AP P.length cP) (.slice AT T.length cT) 1 0 vU vN vS vM) ∧ RdQ B w (.slice AP P.length cP) 1 encI P ∧ RdQ B w (.slice AT T.length cT) 1 encI T ∧
    RdQ B w vN 1 encI (nodesTo P T T.length) ∧ RdQ B w vS 1 encI (slotsTo T T.length) ∧ RdQ B w vM 1 encI (matesTo P T T.length) ∧
    RdQ B w vU 1 (fun v => [v]) us ∧ us.length = T.length ∧ ∀ (i : Nat) (x : Int) (v : Value), T[i]? = some x → us[i]? = some v → RdQ B w v 1 encI (upL P x)
theorem TabQ.f {B : Nat → Prop} {w : World} {b : Nat} {P T : List Int} (h : TabQ B w b P T) : TabF w b P T := by
  obtain ⟨AP, cP, AT, cT, vU, vN, vS, vM, us, h1, h2, h3, h4, h5, h6, h7, h8, h9⟩ := h.ex
  exact ⟨h.ok, AP, cP, AT, cT, vU, vN, vS, vM, us, h1, h2.1, h3.1, h4.1, h5.1, h6.1, h7.1, h8, fun i x v a c => (h9 i x v a c).1⟩
theorem TabQ.turns {B : Nat → Prop} {S : List Nat} {w w' : World} {b : Nat} {P T : List Int} (h : TabQ B w b P T) (t : Turns S w w') (hS : ∀ i ∈ S, ¬ B i) : TabQ B w' b P T := by
  have k : ∀ i, B i → i < w.heap.size → w'.heap[i]? = w.heap[i]? := fun i hi hl => t.block i hl fun hm => hS i hm hi
  have hs := t.size
  obtain ⟨AP, cP, AT, cT, vU, vN, vS, vM, us, h1, h2, h3, h4, h5, h6, h7, h8, h9⟩ := h.ex
  exact ⟨h.ok, h.low, AP, cP, AT, cT, vU, vN, vS, vM, us, (k b h.low h1.lt).trans h1, h2.keep k hs, h3.keep k hs, h4.keep k hs, h5.keep k hs, h6.keep k hs, h7.keep k hs, h8, fun i x v a c => (h9 i x v a c).keep k hs⟩
theorem RdQ.mono {B C : Nat → Prop} {w : World} {v : Value} {sz : Nat} {α : Type} {enc : α → List Value} {l : List α} (h : RdQ B w v sz enc l) (k : ∀ i, B i → C i) : RdQ C w v sz enc l := ⟨h.1, fun hl g hg => k g (h.2 hl g hg)⟩
theorem TabQ.mono {B C : Nat → Prop} {w : World} {b : Nat} {P T : List Int} (h : TabQ B w b P T) (k : ∀ i, B i → C i) : TabQ C w b P T := by
  obtain ⟨AP, cP, AT, cT, vU, vN, vS, vM, us, h1, h2, h3, h4, h5, h6, h7, h8, h9⟩ := h.ex
  exact ⟨h.ok, k _ h.low, AP, cP, AT, cT, vU, vN, vS, vM, us, h1, h2.mono k, h3.mono k, h4.mono k, h5.mono k, h6.mono k, h7.mono k, h8, fun i x v a c => (h9 i x v a c).mono k⟩
theorem TabQ.size {B : Nat → Prop} {m n : Nat} {w : World} {b : Nat} {P T : List Int} (h : TabQ (fun i => B i ∨ m ≤ i) w b P T) (e : m = n) : TabQ (fun i => B i ∨ n ≤ i) w b P T := by subst e; exact h
theorem tab_of_findQ {w1 w2 : World} {b : Nat} {AP AT : Option Addr} {cP cT : Nat} {P T : List Int} {vL vU vN vS vM : Value} {us : List ORow} (hc : chkT P T = 0)
    (h : FindIs w1 w2 b (.slice AP P.length cP) (.slice AT T.length cT) P T vL vU vN vS vM us T.length)
    (hP : RdL w1 (.slice AP P.length cP) 1 encI P) (hT : RdL w1 (.slice AT T.length cT) 1 encI T)
    (nP : ∀ g, (Value.slice AP P.length cP).ownBlock = some g → g ≠ b) (nT : ∀ g, (Value.slice AT T.length cT).ownBlock = some g → g ≠ b) {B : Nat → Prop} (hlo : B b) (lP : ∀ g, (Value.slice AP P.length cP).ownBlock = some g → B g) (lT : ∀ g, (Value.slice AT T.length cT).ownBlock = some g → B g) :
    TabQ (fun i => B i ∨ w1.heap.size ≤ i) (onceEnd b 2 w2) b P T ∧ Turns [b] w1 (onceEnd b 2 w2) := by
  have hml := many_lt (chk_ok hc).1
  have hll : (leavesL P).length ≤ 32 := by have := leavesTo_len P P.length; show (leavesTo P P.length).length ≤ _; omega
  have k0 : Turns [b] w2 (onceEnd b 2 w2) := ((Turns.refl [b] w2).drew.setCell (.inl (by simp)) _).setCell (.inl (by simp)) _
  have k1 := h.bel.trans k0
  have hr : ∀ r ∈ ([intRow vL (leavesL P), intRow vM (matesTo P T T.length), intRow vN (nodesTo P T T.length), intRow vS (slotsTo T T.length), upRow (us.map (·.v)) vU] ++ us), (onceEnd b 2 w2).ownsRow w1.heap.size r.e 1 r.v r.n r.xs := fun r hr => (h.rows.turn k0).own r hr
  have hrl : ∀ r ∈ ([intRow vL (leavesL P), intRow vM (matesTo P T T.length), intRow vN (nodesTo P T T.length), intRow vS (slotsTo T T.length), upRow (us.map (·.v)) vU] ++ us), ∀ g, r.v.ownBlock = some g → (B g ∨ w1.heap.size ≤ g) := fun r hm g hg => .inr ((hr r hm).lt g hg).1
  refine ⟨⟨hc, .inl hlo, AP, cP, AT, cT, vU, vN, vS, vM, us.map (·.v), ?_, RdQ.of (hP.turns k1 (fun g hg hm => by simp at hm; exact nP g hg hm)) (fun g hg => .inl (lP g hg)), RdQ.of (hT.turns k1 (fun g hg hm => by simp at hm; exact nT g hg hm)) (fun g hg => .inl (lT g hg)), RdQ.of ?_ (hrl (intRow vN (nodesTo P T T.length)) (by simp)), RdQ.of ?_ (hrl (intRow vS (slotsTo T T.length)) (by simp)), RdQ.of ?_ (hrl (intRow vM (matesTo P T T.length)) (by simp)), RdQ.of ?_ (hrl (upRow (us.map (·.v)) vU) (by simp)), by simp [h.len], fun i x v hi hv => ?_⟩, k1⟩
  · exact ((h.blk.drew).set_ 2 (.int .u32 1)).set_ 3 (.int .i32 0)
  · exact own_rdl (hr (intRow vN (nodesTo P T T.length)) (by simp)) (by rw [nodesTo_len (Nat.le_refl _)]; omega)
  · exact own_rdl (hr (intRow vS (slotsTo T T.length)) (by simp)) (by rw [slotsTo_len]; omega)
  · exact own_rdl (hr (intRow vM (matesTo P T T.length)) (by simp)) (by rw [matesTo_len]; omega)
  · have h1 := hr (upRow (us.map (·.v)) vU) (by simp)
    refine RdL.of_own (enc := fun v => [v]) (sz := 1) (fun _ => rfl) rfl (by rw [List.length_map, h.len]; omega) (e := 28) (base := w1.heap.size) ?_
    have e : (us.map (·.v)).flatMap (fun (v : Value) => [v]) = us.map (·.v) := by simp
    rw [e]
    exact h1
  · rw [List.getElem?_map] at hv
    cases hu : us[i]? with
    | none => rw [hu] at hv; cases hv
    | some r =>
      rw [hu] at hv
      injection hv with hv
      subst hv
      have hrr := h.up i x r hi hu
      have ho := hr r (by simp [List.mem_of_getElem? hu])
      rw [hrr] at ho
      refine RdQ.of (own_rdl ho (by have := upL_le P x; omega)) (fun g hg => hrl r (by simp [List.mem_of_getElem? hu]) g ?_)
      rw [hrr]; exact hg
theorem found_firstQ (B : Nat → Prop) (w : World) (b : Nat) (P T : List Int) (hc : chkT P T = 0) (h : Tab0Q B w b P T) :
    Calls Tryz.prog 64 #[.pointer (some ⟨b, 0, none⟩)] w fun e w' => e = .returned (.pointer (some ⟨b, 0, none⟩)) ∧ TabQ (fun i => B i ∨ w.heap.size ≤ i) w' b P T ∧ Turns [b] w w' := by
  have hlo := h.low
  obtain ⟨AP, cP, AT, cT, hB, hP, hT, nP, nT, lP, lT⟩ := h.ex
  have k0 : Turns [b] w (w.setCell ⟨b, 3, none⟩ (.int .i32 1)) := Turns.setCell (Turns.refl [b] w) (.inl (by simp)) _
  have hP1 := hP.turns k0 (fun g hg hm => by simp at hm; exact nP g hg hm)
  have hT1 := hT.turns k0 (fun g hg hm => by simp at hm; exact nT g hg hm)
  have hf := find_any (w.setCell ⟨b, 3, none⟩ (.int .i32 1)) b AP AT cP cT P T hc (hB.set_ 3 (.int .i32 1)) hP1 hT1 nP nT
  have HD := Lib.hid (do_first b 2 (.pointer (some ⟨b, 0, none⟩)) w (fun w2 => TabQ (fun i => B i ∨ w.heap.size ≤ i) (onceEnd b 2 w2) b P T ∧ Turns [b] w (onceEnd b 2 w2)) (hB.cell 2) (hB.cell 3) (hB.free 2) (hB.free 3)
    (hf.mono fun e w2 ⟨he, vL, vU, vN, vS, vM, us, hF⟩ => ⟨he, ⟨hF.blk.cell 2, hF.blk.cell 3, hF.blk.free 2, hF.blk.free 3⟩, (tab_of_findQ hc hF hP1 hT1 nP nT hlo lP lT).1.size (by simp), k0.trans (tab_of_findQ hc hF hP1 hT1 nP nT hlo lP lT).2⟩))
  clear hf hP1 hT1 hB hP hT nP nT lP lT k0 hc h hlo
  go_enter Tryz.func64, Tryz.ntmps64
  go_wp2_with fail
  refine HD.out.mono ?_
  rintro en w' ⟨rfl, w2, hR, hw⟩
  have HR := Lib.hid (show TabQ (fun i => B i ∨ w.heap.size ≤ i) w' b P T ∧ Turns [b] w w' by rw [hw]; exact hR)
  clear hR hw
  go_wp2
  go_ret
  exact ⟨rfl, HR.out⟩
/-- a thread's node, when the table is found by that -/
theorem nodeFst (B : Nat → Prop) (w : World) (b : Nat) (P T : List Int) (hc : chkT P T = 0) (i : Nat) (hi : i < T.length) (h : Tab0Q B w b P T) (x : Int) (hx : (nodesTo P T T.length)[i]? = some x) :
    Calls Tryz.prog 38 #[.pointer (some ⟨b, 0, none⟩), .int .i64 i] w fun e w' => e = .returned (.int .i64 x) ∧ TabQ (fun i => B i ∨ w.heap.size ≤ i) w' b P T ∧ Turns [b] w w' := by
  have HF := Lib.hid (found_firstQ B w b P T hc h)
  have HH := Lib.hid (has_b w b P T i true (decide_eq_true (by omega)) (h.tab hc))
  have HX := Lib.hid hx
  clear h hx
  go_enter Tryz.func38, Tryz.ntmps38
  go_wp2_with fail
  refine HH.out.mono ?_
  rintro en w' ⟨rfl, rfl⟩
  go_wp2_with fail
  refine HF.out.mono ?_
  rintro en w1 ⟨rfl, hF0, t1⟩
  have HTF := Lib.hid (And.intro hF0 t1)
  clear t1
  have hF := hF0.f
  clear hF0
  obtain ⟨AP, cP, AT, cT, vU, vN, vS, vM, us, h1, h2, h3, h4, h5, h6, h7, h8, h9⟩ := hF.ex
  have hl : (nodesTo P T T.length).length = T.length := nodesTo_len (Nat.le_refl _)
  obtain ⟨AM, cM, rfl, _, _⟩ := rdl_form h4
  obtain ⟨b1, o1, hA, _, hc1⟩ := rdl_int h4 (by omega)
  subst hA
  have q1 := hc1 i x HX.out
  have c8 := h1.cell 6
  rw [hl] at *
  simp only [tabC] at c8
  clear hF h1 h2 h3 h4 h5 h6 h7 h8 h9 hc1 hl
  go_wp2
  go_ret
  exact ⟨rfl, HTF.out⟩
end Go.Proofs.YtagajjilccjplaaGreat
end
section
set_option linter.unusedVariables false
set_option linter.unusedSimpArgs false
/- path: Mates, when the table is found by that, or was. -/
namespace Go.Proofs.YtagajjilccjplaaGreat
open Go.RowKit

theorem nodesR (w : World) (b : Nat) (P T : List Int) (R : World → Prop) (hR : ∀ w1, R w1 → TabF w1 b P T) (hf : Calls Tryz.prog 64 #[.pointer (some ⟨b, 0, none⟩)] w fun e w' => e = .returned (.pointer (some ⟨b, 0, none⟩)) ∧ R w') :
    Calls Tryz.prog 109 #[.pointer (some ⟨b, 0, none⟩)] w fun e w' => e = .returned (.int .i64 ((leavesL P).length : Nat)) ∧ R w' := by
  have HF := Lib.hid hf
  have HRR := Lib.hid hR
  clear hf hR
  go_enter Tryz.func109, Tryz.ntmps109
  go_wp2_with fail
  refine HF.out.mono ?_
  rintro en w' ⟨rfl, hr⟩
  have HTF := Lib.hid hr
  obtain ⟨AP, cP, AT, cT, vU, vN, vS, vM, us, h1, h2, h3, h4, h5, h6, h7, h8, h9⟩ := (HRR.out _ hr).ex
  obtain ⟨AM, cM, rfl, _, _⟩ := rdl_form h6
  have c8 := h1.cell 8
  simp only [tabC, matesTo_len] at c8
  clear hr h1 h2 h3 h4 h5 h6 h7 h8 h9
  go_wp2
  go_ret
  exact ⟨rfl, HTF.out⟩
theorem matesR (w : World) (b : Nat) (P T : List Int) (hc : chkT P T = 0) (R : World → Prop) (hR : ∀ w1, R w1 → TabF w1 b P T) (hf : Calls Tryz.prog 64 #[.pointer (some ⟨b, 0, none⟩)] w fun e w' => e = .returned (.pointer (some ⟨b, 0, none⟩)) ∧ R w') {k : Nat} {x : Int} (hk : (leavesL P)[k]? = some x) :
    Calls Tryz.prog 110 #[.pointer (some ⟨b, 0, none⟩), .int .i64 k] w fun e w' => e = .returned (.int .i64 ((T.count x : Nat) : Int)) ∧ R w' := by
  have HN := Lib.hid (nodesR w b P T R hR hf)
  have HRR := Lib.hid hR
  have hll : (leavesL P).length ≤ 32 := by have h1 := (many_lt (chk_ok hc).1).2.1; have := leavesTo_len P P.length; show (leavesTo P P.length).length ≤ _; omega
  have hkl := (List.getElem?_eq_some_iff.1 hk).1
  have HX : Hid ((matesTo P T T.length)[k]? = some ((T.count x : Nat) : Int)) := Lib.hid (by
    unfold matesTo
    rw [List.take_length, List.getElem?_map, hk]; rfl)
  obtain ⟨L, hL⟩ : ∃ L, L = (leavesL P).length := ⟨_, rfl⟩
  rw [← hL] at HN hll hkl
  have HL := Lib.hid hL
  clear hR hf hk hL hc
  go_enter Tryz.func110, Tryz.ntmps110
  go_wp2_with fail
  refine HN.out.mono ?_
  rintro en w1 ⟨rfl, hr⟩
  have HTF := Lib.hid hr
  have HF := Lib.hid (found_again w1 b P T (HRR.out _ hr))
  clear hr
  go_wp2_with fail
  refine HF.out.mono ?_
  rintro en w2 ⟨rfl, rfl⟩
  obtain ⟨AP, cP, AT, cT, vU, vN, vS, vM, us, h1, h2, h3, h4, h5, h6, h7, h8, h9⟩ := (HRR.out _ HTF.out).ex
  have hl : (matesTo P T T.length).length = L := by rw [matesTo_len]; exact HL.out.symm
  obtain ⟨AM, cM, rfl, _, _⟩ := rdl_form h6
  obtain ⟨b1, o1, hA, _, hc1⟩ := rdl_int h6 (by omega)
  subst hA
  have q1 := hc1 k _ HX.out
  have c8 := h1.cell 8
  rw [hl] at *
  simp only [tabC] at c8
  clear h1 h2 h3 h4 h5 h6 h7 h8 h9 hc1 hl
  go_wp2
  go_ret
  exact ⟨rfl, HTF.out⟩
theorem matesF (w : World) (b : Nat) (P T : List Int) (h : TabF w b P T) {k : Nat} {x : Int} (hk : (leavesL P)[k]? = some x) :
    Calls Tryz.prog 110 #[.pointer (some ⟨b, 0, none⟩), .int .i64 k] w fun e w' => e = .returned (.int .i64 ((T.count x : Nat) : Int)) ∧ w = w' :=
  matesR w b P T h.ok (fun w' => w = w') (fun _ e => e ▸ h) (found_again w b P T h) hk
theorem slotF (w : World) (b : Nat) (P T : List Int) (i : Nat) (hi : i < T.length) (h : TabF w b P T) :
    Calls Tryz.prog 115 #[.pointer (some ⟨b, 0, none⟩), .int .i64 i] w fun e w' => e = .returned (.int .i64 (slotOf T i)) ∧ w = w' := by
  have HF := Lib.hid (found_again w b P T h)
  have HH := Lib.hid (has_b w b P T i true (decide_eq_true (by omega)) h.tab)
  have HX : Hid ((slotsTo T T.length)[i]? = some (slotOf T i)) := Lib.hid (by unfold slotsTo; simp [hi])
  have HTF := Lib.hid h
  clear h
  go_enter Tryz.func115, Tryz.ntmps115
  go_wp2_with fail
  refine HH.out.mono ?_
  rintro en w' ⟨rfl, rfl⟩
  go_wp2_with fail
  refine HF.out.mono ?_
  rintro en w' ⟨rfl, rfl⟩
  obtain ⟨AP, cP, AT, cT, vU, vN, vS, vM, us, h1, h2, h3, h4, h5, h6, h7, h8, h9⟩ := HTF.out.ex
  have hl : (slotsTo T T.length).length = T.length := slotsTo_len _ _
  obtain ⟨AM, cM, rfl, _, _⟩ := rdl_form h5
  obtain ⟨b1, o1, hA, _, hc1⟩ := rdl_int h5 (by omega)
  subst hA
  have q1 := hc1 i _ HX.out
  have c8 := h1.cell 7
  rw [hl] at *
  simp only [tabC] at c8
  clear h1 h2 h3 h4 h5 h6 h7 h8 h9 hc1 hl
  go_wp2
  go_ret
  exact ⟨rfl, rfl⟩
theorem RdQ.lt {B : Nat → Prop} {w : World} {v : Value} {sz : Nat} {α : Type} {enc : α → List Value} {l : List α} (h : RdQ B w v sz enc l) : RdQ (fun i => B i ∧ i < w.heap.size) w v sz enc l := ⟨h.1, fun hl g hg => ⟨h.2 hl g hg, rd_block h.1 hl hg⟩⟩
theorem TabQ.lt {B : Nat → Prop} {w : World} {b : Nat} {P T : List Int} (h : TabQ B w b P T) : TabQ (fun i => B i ∧ i < w.heap.size) w b P T := by
  obtain ⟨AP, cP, AT, cT, vU, vN, vS, vM, us, h1, h2, h3, h4, h5, h6, h7, h8, h9⟩ := h.ex
  exact ⟨h.ok, ⟨h.low, h1.lt⟩, AP, cP, AT, cT, vU, vN, vS, vM, us, h1, h2.lt, h3.lt, h4.lt, h5.lt, h6.lt, h7.lt, h8, fun i x v a c => (h9 i x v a c).lt⟩
end Go.Proofs.YtagajjilccjplaaGreat
end
section
set_option linter.unusedVariables false
set_option linter.unusedSimpArgs false
/- The document's Small; a budget that may be. (out of XHl5, XHl6: for seats without hclh) -/
namespace Go.Proofs.YtagajjilccjplaaGreat
open Go.RowKit

theorem rightB (b : Int) (w : World) (h0 : 0 ≤ b) (h1 : b ≤ 1000) : Calls Tryz.prog 28 #[.int .i64 b] w fun e w' => e = .returned (.bool true) ∧ w = w' := by
  have HI : Calls Tryz.prog 55 #[.int .i64 b, .int .i64 0, .int .i64 1000] w fun e w' => e = .returned (.bool true) ∧ w = w' := by
    go_enter Tryz.func55, Tryz.ntmps55
    go_wp2
    go_ret
    exact ⟨rfl, rfl⟩
  have H := Lib.hid HI
  clear HI
  go_enter Tryz.func28, Tryz.ntmps28
  go_wp2_with fail
  refine H.out.mono ?_
  rintro en w1 ⟨rfl, rfl⟩
  go_wp2
  go_ret
  exact ⟨rfl, rfl⟩
end Go.Proofs.YtagajjilccjplaaGreat
end
section
set_option linter.unusedVariables false
set_option linter.unusedSimpArgs false
/- Layer 24 (cohort): a new lock: it comes to be, and the arena has some words more. -/
namespace Go.Proofs.YtagajjilccjplaaGreat
open Go.RowKit

def nodeQ (P T : List Int) (n : Nat) : Nat := (idxI (leavesL P) (T.getD n 0)).toNat
theorem Turns.cellQ {S : List Nat} {w w' : World} (k : Turns S w w') {p : Addr} {u : Value} (h : w.cell? p = some u) (hS : p.block ∉ S) : w'.cell? p = some u := by
  rw [World.cell?_of_block (w := w) (w' := w') (a := p) (k.block p.block (block_lt_of_cell h) hS)]
  exact h
theorem Turns.grownByQ {w w' : World} {row : Option Nat} (h : w.grownBy w' row) : Turns row.toList w w' :=
  ⟨h.os, h.tape, h.output, h.size, fun i hi hn => h.block i hi (by intro e; rw [← e] at hn; simp at hn)⟩
theorem Tryz.infoNd : (Tryz.prog.info? 219).map (fun i => (i.zero, i.size, i.bytes)) = some (some (.agg #[.pointer none, .int .i64 0]), 2, 16) := by kernel_rfl
theorem nodesFstQ (B : Nat → Prop) (w : World) (b : Nat) (P T : List Int) (hc : chkT P T = 0) (h : Tab0Q B w b P T) :
    Calls Tryz.prog 109 #[.pointer (some ⟨b, 0, none⟩)] w fun e w' => e = .returned (.int .i64 ((leavesL P).length : Nat)) ∧ TabQ (fun i => B i ∨ w.heap.size ≤ i) w' b P T ∧ Turns [b] w w' :=
  nodesR w b P T (fun w' => TabQ (fun i => B i ∨ w.heap.size ≤ i) w' b P T ∧ Turns [b] w w') (fun _ h => h.1.f) (found_firstQ B w b P T hc h)
theorem nodesFQ (w : World) (b : Nat) (P T : List Int) (h : TabF w b P T) :
    Calls Tryz.prog 109 #[.pointer (some ⟨b, 0, none⟩)] w fun e w' => e = .returned (.int .i64 ((leavesL P).length : Nat)) ∧ w = w' :=
  nodesR w b P T (fun w' => w = w') (fun _ e => e ▸ h) (found_again w b P T h)
def coC (a b : Nat) (G L par bud : Int) (gp nd sp : Value) : Array Value := #[.pointer (some ⟨a, 0, none⟩), .pointer (some ⟨b, 0, none⟩), .int .i64 G, .int .i64 L, .int .i64 par, .int .i64 bud, gp, nd, sp]
end Go.Proofs.YtagajjilccjplaaGreat
end
section
set_option linter.unusedVariables false
set_option linter.unusedSimpArgs false
/- Layer 24 (cohort): how a lock lies in memory; has, Threads, Spot, of. -/
namespace Go.Proofs.YtagajjilccjplaaGreat
open Go.RowKit

/-- where a cohort lock lies: its own block, the table's, the nodes', the spots'; threads, nodes, the nodes' room; the global lock, the local ones, the counts' words; whose a block is -/
structure Cox where
  l : Nat
  b : Nat
  qn : Nat
  qs : Nat
  n : Nat
  N : Nat
  capn : Nat
  par : Nat
  g : Fx
  X : List Fx
  W : List Nat
  o : Nat → Nat
def ndE (y : Fx × Nat) : List Value := [.pointer (some ⟨y.1.p, 0, none⟩), .int .i64 y.2]
theorem ndE_len (y : Fx × Nat) : (ndE y).length = 2 := rfl
/-- what does not change -/
structure CoFx (B : Nat → Prop) (a g : Nat) (x : Cox) (c : CoC) (P T : List Int) : Prop where
  ck : chkT P T = 0
  nT : x.n = T.length
  nN : x.N = (leavesL P).length
  lX : x.X.length = x.N
  lW : x.W.length = x.N
  cap : x.N ≤ x.capn
  cn : ∀ i, i < x.n → c.node i = nodeQ P T i ∧ (c.slot i : Int) = slotOf T i
  tg : c.tg = x.g.t
  tl : ∀ (n : Nat) (y : Fx), x.X[n]? = some y → c.tl n = y.t ∧ (y.m : Int) = c.m
  gm : (x.g.m : Int) = c.m
  pm : (x.par : Int) = c.m
  cc : ∀ (n v : Nat), x.W[n]? = some v → c.cw n = v ∧ v ≤ 5000
  kg : KOk c.kg
  kl : KOk c.kl
  bud : 0 ≤ c.bud ∧ c.bud ≤ 1000
  par : 1 ≤ x.par ∧ x.par ≤ 4
  ol : x.o x.l = 1
  on : x.o x.qn = 1
  os : x.o x.qs = 2
  oa : x.o a = 3
  og : x.o g = 3
  oG : x.o x.g.p = 4 ∧ x.o x.g.l = 4 ∧ x.o x.g.q = 4
  oL : ∀ (n : Nat) (y : Fx), x.X[n]? = some y → x.o y.p = 5 + n ∧ x.o y.l = 5 + n ∧ x.o y.q = 5 + n
  oB : ∀ i, B i → x.o i = 0
/-- a cohort lock in memory -/
structure CoIs (B : Nat → Prop) (w : World) (a g : Nat) (x : Cox) (c : CoC) (P T : List Int) (st : Co) : Prop where
  fx : CoFx B a g x c P T
  ar : ArIs w a g st.s
  lk : Blk w x.l 216 (coC a x.b c.kg c.kl x.par c.bud (.pointer (some ⟨x.g.p, 0, none⟩)) (.slice (some ⟨x.qn, 0, none⟩) x.N x.capn) (.slice (some ⟨x.qs, 0, none⟩) x.n x.n))
  tb : TabQ B w x.b P T
  nd : ∃ Z : List Value, Blk w x.qn 219 ((x.X.zip x.W).flatMap ndE ++ Z).toArray
  sp : SpR w x.qs st.T
  gl : FlIs w a g c.kg x.g st.s st.G
  lo : ∀ (n : Nat) (y : Fx) (S : List Sp), x.X[n]? = some y → st.L[n]? = some S → FlIs w a g c.kl y st.s S
  lL : st.L.length = x.N
  lG : st.G.length = x.N
  lS : st.T.length = x.n
  sl : ∀ (i : Nat) (S : List Sp), i < x.n → st.L[c.node i]? = some S → c.slot i < S.length
section
variable {B : Nat → Prop} {w w' : World} {a g : Nat} {x : Cox} {c : CoC} {P T : List Int} {st : Co} {s' : Ar}
theorem CoFx.n32 (h : CoFx B a g x c P T) : x.n ≤ 32 ∧ x.N ≤ 32 := by
  have h1 := many_lt (chk_ok h.ck).1
  have := leavesTo_len P P.length
  have e1 := h.nT
  have e2 := h.nN
  have : (leavesL P).length ≤ 32 := by show (leavesTo P P.length).length ≤ 32; omega
  omega
theorem CoFx.node (h : CoFx B a g x c P T) {i : Nat} (hi : i < x.n) : c.node i < x.N ∧ (nodesTo P T T.length)[i]? = some (c.node i : Int) := by
  have hn : i < T.length := by rw [← h.nT]; exact hi
  obtain ⟨y, hy⟩ := getElem?_lt hn
  have hm := thr_mem (chk_ok h.ck).2.2.2 hy
  obtain ⟨k, hk⟩ := Int.eq_ofNat_of_zero_le ((idx_nonneg (leavesL P) y).1.2 hm)
  have hg := idx_get hm hk
  have e : c.node i = k := by
    rw [(h.cn i hi).1]
    unfold nodeQ
    rw [getD_of hy, hk]; rfl
  rw [e, h.nN]
  refine ⟨(List.getElem?_eq_some_iff.1 hg).1, ?_⟩
  unfold nodesTo
  rw [List.take_length, List.getElem?_map, hy]
  show some (idxI (leavesL P) y) = _
  rw [hk]
theorem CoIs.loc (h : CoIs B w a g x c P T st) {i : Nat} (hi : i < x.n) : ∃ (y : Fx) (v : Nat) (S : List Sp), x.X[c.node i]? = some y ∧ x.W[c.node i]? = some v ∧ st.L[c.node i]? = some S ∧ c.slot i < S.length ∧ S[c.slot i]? = some (lsp st.L (c.node i) (c.slot i)) := by
  have hn := (h.fx.node hi).1
  obtain ⟨y, hy⟩ := getElem?_lt (show c.node i < x.X.length by rw [h.fx.lX]; exact hn)
  obtain ⟨v, hv⟩ := getElem?_lt (show c.node i < x.W.length by rw [h.fx.lW]; exact hn)
  obtain ⟨S, hS⟩ := getElem?_lt (show c.node i < st.L.length by rw [h.lL]; exact hn)
  have hs := h.sl i S hi hS
  refine ⟨y, v, S, hy, hv, hS, hs, ?_⟩
  unfold lsp
  have e : st.L.getD (c.node i) [] = S := by rw [List.getD_eq_getElem?_getD, hS]; rfl
  rw [e, List.getD_eq_getElem?_getD, List.getElem?_eq_getElem hs]; rfl
theorem CoIs.glo (h : CoIs B w a g x c P T st) {i : Nat} (hi : i < x.n) : st.G[c.node i]? = some (sv st.G (c.node i)) := by
  have hn := (h.fx.node hi).1
  have : c.node i < st.G.length := by rw [h.lG]; exact hn
  unfold sv
  rw [List.getD_eq_getElem?_getD, List.getElem?_eq_getElem this]; rfl
theorem CoIs.thr (h : CoIs B w a g x c P T st) {i : Nat} (hi : i < x.n) : st.T[i]? = some (sv st.T i) := by
  have : i < st.T.length := by rw [h.lS]; exact hi
  unfold sv
  rw [List.getD_eq_getElem?_getD, List.getElem?_eq_getElem this]; rfl
theorem ne_own {o : Nat → Nat} {i j u v : Nat} (hi : o i = u) (hj : o j = v) (h : u ≠ v) : i ≠ j := fun e => h (by rw [← hi, ← hj, e])
theorem CoIs.turns0 (h : CoIs B w a g x c P T st) (t : Turns [] w w') : CoIs B w' a g x c P T st :=
  { h with ar := h.ar.turns t (by simp) (by simp), lk := t.blk h.lk (by simp), tb := h.tb.turns t (by simp), nd := by obtain ⟨Z, z⟩ := h.nd; exact ⟨Z, t.blk z (by simp)⟩,
           sp := h.sp.turns t (by simp), gl := h.gl.turns t (by simp) (by simp) (by simp) (by simp) (by simp), lo := fun n y S hy hS => (h.lo n y S hy hS).turns t (by simp) (by simp) (by simp) (by simp) (by simp) }
theorem CoIs.below (h : CoIs B w a g x c P T st) (t : Below w.heap.size w w') : CoIs B w' a g x c P T st := h.turns0 (Turns.of_below t)
/-- all but spots and locks, where blocks of whom turned that are none of them -/
theorem CoIs.rest (h : CoIs B w a g x c P T st) {S : List Nat} (t : Turns S w w') (hS : ∀ i ∈ S, 2 ≤ x.o i) :
    Blk w' x.l 216 (coC a x.b c.kg c.kl x.par c.bud (.pointer (some ⟨x.g.p, 0, none⟩)) (.slice (some ⟨x.qn, 0, none⟩) x.N x.capn) (.slice (some ⟨x.qs, 0, none⟩) x.n x.n)) ∧
    TabQ B w' x.b P T ∧ ∃ Z : List Value, Blk w' x.qn 219 ((x.X.zip x.W).flatMap ndE ++ Z).toArray := by
  obtain ⟨Z, z⟩ := h.nd
  exact ⟨t.blk h.lk (fun k => by have := hS _ k; rw [h.fx.ol] at this; omega), h.tb.turns t (fun i hi hb => by have := hS i hi; rw [h.fx.oB i hb] at this; omega), Z, t.blk z (fun k => by have := hS _ k; rw [h.fx.on] at this; omega)⟩
/-- an op on a count's word -/
theorem CoIs.cnt (h : CoIs B w a g x c P T st) (t : Turns [a, g] w w') (ha : ArIs w' a g s') : CoIs B w' a g x c P T { st with s := s' } := by
  obtain ⟨h1, h2, h3⟩ := h.rest t (by intro i hi; simp at hi; rcases hi with rfl | rfl <;> first | (rw [h.fx.oa]; omega) | (rw [h.fx.og]; omega))
  have n2 : ∀ r u, x.o r = u → u ≠ 3 → r ∉ [a, g] := fun r u e hu => by
    simp only [List.mem_cons, List.not_mem_nil, or_false, not_or]
    exact ⟨ne_own e h.fx.oa hu, ne_own e h.fx.og hu⟩
  exact ⟨h.fx, ha, h1, h2, h3, h.sp.turns t (n2 _ _ h.fx.os (by decide)), h.gl.oth t ha (n2 _ _ h.fx.oG.1 (by decide)) (n2 _ _ h.fx.oG.2.1 (by decide)) (n2 _ _ h.fx.oG.2.2 (by decide)),
    fun n y S hy hS => (h.lo n y S hy hS).oth t ha (n2 _ _ (h.fx.oL n y hy).1 (by omega)) (n2 _ _ (h.fx.oL n y hy).2.1 (by omega)) (n2 _ _ (h.fx.oL n y hy).2.2 (by omega)), h.lL, h.lG, h.lS, h.sl⟩
theorem nin3 {o : Nat → Nat} {a g q r u v : Nat} (ha : o a = 3) (hg : o g = 3) (hq : o q = v) (e : o r = u) (h3 : u ≠ 3) (hv : u ≠ v) : r ∉ [a, g, q] := by
  simp only [List.mem_cons, List.not_mem_nil, or_false, not_or]
  exact ⟨ne_own e ha h3, ne_own e hg h3, ne_own e hq hv⟩
/-- an op of a thread's local lock -/
theorem CoIs.locOp (h : CoIs B w a g x c P T st) {i : Nat} (hi : i < x.n) {y : Fx} (hy : x.X[c.node i]? = some y) {p' : Sp} (t : Turns [a, g, y.q] w w')
    (hf : FlIs w' a g c.kl y s' ((st.L.getD (c.node i) []).set (c.slot i) p')) : CoIs B w' a g x c P T { st with s := s', L := lset st.L (c.node i) (c.slot i) p' } := by
  have hq := (h.fx.oL _ y hy).2.2
  obtain ⟨h1, h2, h3⟩ := h.rest t (by intro i hi; simp at hi; rcases hi with rfl | rfl | rfl <;> first | (rw [h.fx.oa]; omega) | (rw [h.fx.og]; omega) | (rw [hq]; omega))
  have n3 : ∀ r u, x.o r = u → u ≠ 3 → u ≠ 5 + c.node i → r ∉ [a, g, y.q] := fun r u e hu hv => nin3 h.fx.oa h.fx.og hq e hu hv
  refine ⟨h.fx, hf.ki.ar, h1, h2, h3, h.sp.turns t (n3 _ _ h.fx.os (by decide) (by omega)), h.gl.oth t hf.ki.ar (n3 _ _ h.fx.oG.1 (by decide) (by omega)) (n3 _ _ h.fx.oG.2.1 (by decide) (by omega)) (n3 _ _ h.fx.oG.2.2 (by decide) (by omega)),
    fun n z S hz hS => ?_, ?_, h.lG, h.lS, fun j S hj hS => ?_⟩
  · unfold lset at hS
    simp only at hS
    rw [List.getElem?_set] at hS
    split at hS
    · rename_i e
      split at hS
      · simp only [Option.some.injEq] at hS
        subst e
        rw [hy] at hz
        injection hz with hz
        subst hz; subst hS
        exact hf
      · cases hS
    · rename_i e
      have hne : ∀ u, u = 5 + n → u ≠ 5 + c.node i := by omega
      exact (h.lo n z S hz hS).oth t hf.ki.ar (n3 _ _ (h.fx.oL n z hz).1 (by omega) (hne _ rfl)) (n3 _ _ (h.fx.oL n z hz).2.1 (by omega) (hne _ rfl)) (n3 _ _ (h.fx.oL n z hz).2.2 (by omega) (hne _ rfl))
  · show (lset _ _ _ _).length = _
    unfold lset; rw [List.length_set]; exact h.lL
  · unfold lset at hS
    simp only at hS
    rw [List.getElem?_set] at hS
    split at hS
    · rename_i e
      split at hS
      · simp only [Option.some.injEq] at hS
        subst hS
        rw [List.length_set]
        rename_i hl
        have := h.sl j (st.L.getD (c.node i) []) hj (by rw [← e, List.getD_eq_getElem?_getD, List.getElem?_eq_getElem hl]; rfl)
        exact this
      · cases hS
    · exact h.sl j S hj hS
/-- an op of the global lock -/
theorem CoIs.gloOp (h : CoIs B w a g x c P T st) {n : Nat} {p' : Sp} (t : Turns [a, g, x.g.q] w w')
    (hf : FlIs w' a g c.kg x.g s' (st.G.set n p')) : CoIs B w' a g x c P T { st with s := s', G := st.G.set n p' } := by
  have hq := h.fx.oG.2.2
  obtain ⟨h1, h2, h3⟩ := h.rest t (by intro i hi; simp at hi; rcases hi with rfl | rfl | rfl <;> first | (rw [h.fx.oa]; omega) | (rw [h.fx.og]; omega) | (rw [hq]; omega))
  have n3 : ∀ r u, x.o r = u → u ≠ 3 → u ≠ 4 → r ∉ [a, g, x.g.q] := fun r u e hu hv => nin3 h.fx.oa h.fx.og hq e hu hv
  exact ⟨h.fx, hf.ki.ar, h1, h2, h3, h.sp.turns t (n3 _ _ h.fx.os (by decide) (by omega)), hf,
    fun n z S hz hS => (h.lo n z S hz hS).oth t hf.ki.ar (n3 _ _ (h.fx.oL n z hz).1 (by omega) (by omega)) (n3 _ _ (h.fx.oL n z hz).2.1 (by omega) (by omega)) (n3 _ _ (h.fx.oL n z hz).2.2 (by omega) (by omega)), h.lL, by show (st.G.set n p').length = _; rw [List.length_set]; exact h.lG, h.lS, h.sl⟩
/-- a store into a thread's spot -/
theorem CoIs.put (h : CoIs B w a g x c P T st) {i : Nat} {p p' : Sp} (hp : st.T[i]? = some p) {j : Nat} {u : Value} (hj : j < 4) (he : (encP4 p).set j u = encP4 p') :
    CoIs B (w.setCell ⟨x.qs, i * 4 + j, none⟩ u) a g x c P T { st with T := st.T.set i p' } := by
  have t : Turns [x.qs] w (w.setCell ⟨x.qs, i * 4 + j, none⟩ u) := turns_q _ _ _
  obtain ⟨h1, h2, h3⟩ := h.rest t (by intro i hi; simp at hi; subst hi; rw [h.fx.os]; omega)
  have n1 : ∀ r v, x.o r = v → v ≠ 2 → r ∉ [x.qs] := fun r v e hv => by simpa using ne_own e h.fx.os hv
  have na := n1 _ _ h.fx.oa (by decide)
  have ng := n1 _ _ h.fx.og (by decide)
  exact ⟨h.fx, h.ar.turns t na ng, h1, h2, h3, h.sp.put hp hj he, h.gl.turns t (n1 _ _ h.fx.oG.1 (by decide)) (n1 _ _ h.fx.oG.2.1 (by decide)) na ng (n1 _ _ h.fx.oG.2.2 (by decide)),
    fun n z S hz hS => (h.lo n z S hz hS).turns t (n1 _ _ (h.fx.oL n z hz).1 (by omega)) (n1 _ _ (h.fx.oL n z hz).2.1 (by omega)) na ng (n1 _ _ (h.fx.oL n z hz).2.2 (by omega)), h.lL, h.lG, by show (st.T.set i p').length = _; rw [List.length_set]; exact h.lS, h.sl⟩
theorem CoIs.put0 (h : CoIs B w a g x c P T st) {i : Nat} {p p' : Sp} (hp : st.T[i]? = some p) {u : Value} (he : (encP4 p).set 0 u = encP4 p') :
    CoIs B (w.setCell ⟨x.qs, i * 4, none⟩ u) a g x c P T { st with T := st.T.set i p' } := h.put hp (j := 0) (by decide) he
/-- a node's row -/
theorem CoIs.row (h : CoIs B w a g x c P T st) {n : Nat} {y : Fx} {v : Nat} (hy : x.X[n]? = some y) (hv : x.W[n]? = some v) :
    w.cell? ⟨x.qn, n * 2, none⟩ = some (.pointer (some ⟨y.p, 0, none⟩)) ∧ w.cell? ⟨x.qn, n * 2 + 1, none⟩ = some (.int .i64 v) := by
  obtain ⟨Z, z⟩ := h.nd
  have hz : (x.X.zip x.W)[n]? = some (y, v) := by rw [List.getElem?_zip_eq_some]; exact ⟨hy, hv⟩
  have c0 := getElem?_flatMap ndE 2 ndE_len _ n _ 0 (.pointer (some ⟨y.p, 0, none⟩)) hz rfl
  have c1 := getElem?_flatMap ndE 2 ndE_len _ n _ 1 (.int .i64 v) hz rfl
  have l0 := (List.getElem?_eq_some_iff.1 c0).1
  have l1 := (List.getElem?_eq_some_iff.1 c1).1
  have e0 := z.cell (n * 2)
  have e1 := z.cell (n * 2 + 1)
  simp only [List.getElem?_toArray] at e0 e1
  rw [List.getElem?_append_left (by simpa using l0), show n * 2 = n * 2 + 0 from rfl, c0] at e0
  rw [List.getElem?_append_left l1, c1] at e1
  exact ⟨e0, e1⟩
theorem results_cell_row3 {P : Program} {fn : Func} {p u v : Tmp} {ty : TypeId} (h : fn.results = #[.cell p ty, .tmp u, .tmp v]) (tmps : Array Value) (w : World) (g : Nat) (t : TypeId) (cs : Array Value) (fr : Nat × Nat) (d : TypeDesc)
    (hp : tmps.getD p undef = .pointer (some ⟨g, 0, none⟩)) (hg : w.heap[g]? = some (.cells cs t fr))
    (hu : P.underlying ty = some d) (hd : (match d with | .struct _ | .array _ _ => true | _ => false) = true) (hi : (P.info? ty).map (·.size) = some cs.size) :
    (results fn tmps).run P w = .ok (.tuple #[.agg cs, tmps.getD u undef, tmps.getD v undef]) w := by
  have hp' : tmps[p]?.getD undef = .pointer (some ⟨g, 0, none⟩) := by simpa using hp
  simp [results, h, hp', asAddr, run_loadVar_row w g t ty cs fr d hg hu hd hi]
theorem threadsCo (h : CoIs B w a g x c P T st) : Calls Tryz.prog 196 #[.pointer (some ⟨x.l, 0, none⟩)] w fun e w' => e = .returned (.int .i64 x.n) ∧ w = w' := by
  have c8 : w.cell? ⟨x.l, 8, none⟩ = some (.slice (some ⟨x.qs, 0, none⟩) x.n x.n) := h.lk.cell 8
  clear h
  go_enter Tryz.func196, Tryz.ntmps196
  go_wp2
  go_ret
  exact ⟨rfl, rfl⟩
theorem hasCo (h : CoIs B w a g x c P T st) (i : Nat) (hi : i < x.n) : Calls Tryz.prog 197 #[.pointer (some ⟨x.l, 0, none⟩), .int .i64 i] w fun e w' => e = .returned (.bool true) ∧ w = w' := by
  have HT := Lib.hid (threadsCo h)
  have hn := h.fx.n32
  have t1 : (0 : Int) ≤ i := by omega
  have t2 : (i : Int) < x.n := by omega
  clear h
  go_enter Tryz.func197, Tryz.ntmps197
  go_wp2_with fail
  refine HT.out.mono ?_
  rintro en w1 ⟨rfl, rfl⟩
  go_wp2
  go_ret
  exact ⟨rfl, rfl⟩
set_option maxHeartbeats 400000 in
theorem spotCo (h : CoIs B w a g x c P T st) (i : Nat) (hi : i < x.n) :
    Calls Tryz.prog 194 #[.pointer (some ⟨x.l, 0, none⟩), .int .i64 i] w fun e w' => e = .returned (spotV (sv st.T i)) ∧ Below w.heap.size w w' := by
  have H : Hid (CoIs B (w.alloc (.cells #[.int .i64 0, .int .i64 0, .int .i64 0, .int .i64 0] 145)) a g x c P T st) := Lib.hid (h.below ((Below.refl _ _).alloc (Nat.le_refl _) _))
  have hp := h.thr hi
  obtain ⟨p, hpp⟩ : ∃ p, p = sv st.T i := ⟨_, rfl⟩
  rw [← hpp] at hp ⊢
  have c8 : w.cell? ⟨x.l, 8, none⟩ = some (.slice (some ⟨x.qs, 0, none⟩) x.n x.n) := h.lk.cell 8
  have a0 := h.sp.cell hp 0 _ rfl
  have a1 := h.sp.cell hp 1 _ rfl
  have a2 := h.sp.cell hp 2 _ rfl
  have a3 := h.sp.cell hp 3 _ rfl
  simp only [Nat.add_zero] at a0
  have HH := Lib.hid (hasCo H.out i hi)
  have hs1 := h.lk.lt
  have hs2 := h.sp.lt
  have t2 : ¬ (i : Int) < 0 := by omega
  clear h hp hpp
  go_enter Tryz.func194, Tryz.ntmps194
  go_wp2_with (go_at_call 197; refine HH.out.mono ?_; rintro e w' ⟨rfl, rfl⟩)
  exact bodyPost_ret (results_cell_row (by rfl) _ _ w.heap.size 145 _ (0, 0) _ (by rfl) (heap_alloc_new w _) Tryz.underlying145 rfl (by kernel_rfl)) rfl ⟨rfl, (Below.refl _ _).alloc (Nat.le_refl _) _⟩
set_option maxRecDepth 100000 in
set_option maxHeartbeats 2000000 in
theorem ofCo (h : CoIs B w a g x c P T st) (i : Nat) (hi : i < x.n) {y : Fx} {v : Nat} (hy : x.X[c.node i]? = some y) (hv : x.W[c.node i]? = some v) :
    Calls Tryz.prog 198 #[.pointer (some ⟨x.l, 0, none⟩), .int .i64 i] w fun e w' => e = .returned (.tuple #[.agg #[.pointer (some ⟨y.p, 0, none⟩), .int .i64 v], .int .i64 (c.node i : Int), .int .i64 (c.slot i : Int)]) ∧ Below w.heap.size w w' := by
  have hn := h.fx.n32
  obtain ⟨hN, hnd⟩ := h.fx.node hi
  have hT : i < T.length := by rw [← h.fx.nT]; exact hi
  have hsl := (h.fx.cn i hi).2
  obtain ⟨r0, r1⟩ := h.row hy hv
  have b1 := (Below.refl w.heap.size w).alloc (Nat.le_refl _) (.cells #[.pointer none, .int .i64 0] 219)
  have h1 := h.below b1
  have c1 : w.cell? ⟨x.l, 1, none⟩ = some (.pointer (some ⟨x.b, 0, none⟩)) := h.lk.cell 1
  have c7 : w.cell? ⟨x.l, 7, none⟩ = some (.slice (some ⟨x.qn, 0, none⟩) x.N x.capn) := h.lk.cell 7
  have HN := Lib.hid (nodeF (w.alloc (.cells #[.pointer none, .int .i64 0] 219)) x.b P T i hT h1.tb.f _ hnd)
  have hsf := slotF (w.alloc (.cells #[.pointer none, .int .i64 0] 219)).drew x.b P T i hT (h1.below (Below.drew (Below.refl _ _))).tb.f
  rw [← hsl] at hsf
  have HS := Lib.hid hsf
  have hl1 := h.lk.lt
  obtain ⟨nd, he⟩ : ∃ nd, nd = c.node i := ⟨_, rfl⟩
  rw [← he] at hN r0 r1 HN ⊢
  obtain ⟨sl, hs⟩ : ∃ s, s = c.slot i := ⟨_, rfl⟩
  rw [← hs] at HS ⊢
  have t1 : (0 : Int) ≤ (nd : Int) := by omega
  have t2 : (nd : Int) < x.N := by omega
  have t3 : (nd : Int) ≤ x.N := by omega
  have HB := Lib.hid b1
  have HK : Hid (∀ o : Obj, (w.alloc o).drew.cell? ⟨x.l, 1, none⟩ = some (.pointer (some ⟨x.b, 0, none⟩)) ∧ (w.alloc o).drew.cell? ⟨x.l, 7, none⟩ = some (.slice (some ⟨x.qn, 0, none⟩) x.N x.capn) ∧ (w.alloc o).drew.cell? ⟨x.qn, nd * 2, none⟩ = some (.pointer (some ⟨y.p, 0, none⟩)) ∧ (w.alloc o).drew.cell? ⟨x.qn, nd * 2 + 1, none⟩ = some (.int .i64 v)) := Lib.hid fun o => by
    have ho := h.below (((Below.refl w.heap.size w).alloc (Nat.le_refl _) o).drew)
    exact ⟨ho.lk.cell 1, ho.lk.cell 7, (ho.row (he ▸ hy) (he ▸ hv)).1, (ho.row (he ▸ hy) (he ▸ hv)).2⟩
  clear h h1 b1 hsf hy hv hnd hsl he hs r0 r1
  go_enter Tryz.func198, Tryz.ntmps198
  go_wp2_with fail
  refine HN.out.mono ?_
  rintro en w1 ⟨rfl, rfl⟩
  go_wp2_with fail
  go_region_held3 (fun W => W.cell? ⟨x.l, 1, none⟩ = some (.pointer (some ⟨x.b, 0, none⟩)) ∧ W.cell? ⟨x.l, 7, none⟩ = some (.slice (some ⟨x.qn, 0, none⟩) x.N x.capn) ∧ W.cell? ⟨x.qn, nd * 2, none⟩ = some (.pointer (some ⟨y.p, 0, none⟩)) ∧ W.cell? ⟨x.qn, nd * 2 + 1, none⟩ = some (.int .i64 v))
    (first | exact HK.out _)
    (first | (go_at_call 115; go_loud (refine HS.out.mono ?_); rintro en w3 ⟨rfl, rfl⟩))
  all_goals
    go_wp2
    exact bodyPost_ret (results_cell_row3 (by rfl) _ _ w.heap.size 219 _ (0, 0) _ (by rfl) (heap_alloc_new w _) Tryz.underlying219 rfl (by kernel_rfl)) rfl ⟨rfl, ((Below.refl _ _).alloc (Nat.le_refl _) _).drew⟩
end
end Go.Proofs.YtagajjilccjplaaGreat
end
section
set_option linter.unusedVariables false
set_option linter.unusedSimpArgs false
/- Layer 24 (cohort), plain: where slots and threads may be, and what an act leaves alone. No program in sight. -/
namespace Go.Proofs.YtagajjilccjplaaGreat
open Go

/-- where the slot of a thread's local lock is, as to where the thread is -/
def linkP (p q : Sp) : Prop :=
  (p.pc = 0 ∧ q.pc = 0) ∨ (p.pc = 1 ∧ 0 < q.pc ∧ q.pc < 10) ∨
    ((p.pc = 2 ∨ p.pc = 3 ∨ p.pc = 4 ∨ p.pc = 10 ∨ p.pc = 11 ∨ p.pc = 12 ∨ p.pc = 13 ∨ p.pc = 14 ∨ p.pc = 15) ∧ q.pc = 10) ∨ (p.pc = 16 ∧ 10 < q.pc)
theorem stepK_pc {k : Nat} {t m : Int} {s : Ar} {i : Int} {p : Sp} (hk : 1 ≤ k ∧ k ≤ 5) (hc : pcK k p) :
    pcK k (stepK k t m s i p).2 ∧ (0 < p.pc → p.pc < 10 → 0 < (stepK k t m s i p).2.pc ∧ (stepK k t m s i p).2.pc ≤ 10) ∧ (10 < p.pc → (stepK k t m s i p).2.pc = 0 ∨ 10 < (stepK k t m s i p).2.pc) := by
  unfold stepK
  split
  · rename_i h1
    subst h1
    obtain ⟨pc, u, b, z⟩ := p
    simp only [pcK, mcsPc, reduceIte, show ¬ (1 = 4) by decide, show ¬ (1 = 5) by decide] at hc ⊢
    unfold tasK
    rcases hc with rfl | rfl | rfl | rfl | rfl <;> simp <;> split <;> simp <;> omega
  split
  · rename_i h1
    subst h1
    obtain ⟨pc, u, b, z⟩ := p
    simp only [pcK, mcsPc, reduceIte, show ¬ (2 = 4) by decide, show ¬ (2 = 5) by decide] at hc ⊢
    unfold tickK
    rcases hc with rfl | rfl | rfl | rfl | rfl <;> simp <;> split <;> simp <;> omega
  split
  · rename_i h1
    subst h1
    obtain ⟨pc, u, b, z⟩ := p
    simp only [pcK, mcsPc, reduceIte, show ¬ (3 = 4) by decide, show ¬ (3 = 5) by decide] at hc ⊢
    unfold partK
    rcases hc with rfl | rfl | rfl | rfl | rfl <;> simp <;> split <;> simp <;> omega
  split
  · rename_i h1
    subst h1
    obtain ⟨pc, u, b, z⟩ := p
    simp only [pcK, mcsPc, reduceIte] at hc ⊢
    unfold mcsK
    split
    · unfold mcsIn
      (repeat' split) <;> simp_all <;> omega
    split
    · unfold mcsOut
      (repeat' split) <;> simp_all <;> omega
    · simp only; omega
  · obtain rfl : k = 5 := by omega
    obtain ⟨pc, u, b, z⟩ := p
    simp only [pcK, mcsPc, reduceIte, show ¬ (5 = 4) by decide] at hc ⊢
    unfold clhK
    rcases hc with rfl | rfl | rfl | rfl | rfl | rfl <;> simp <;> split <;> simp <;> omega
theorem came_in {p p' : Sp} (h0 : 0 < p.pc) (h1 : p.pc < 10) (h2 : 0 < p'.pc) : cameK p p' = decide (p'.pc = 10) := by
  unfold cameK
  have : ¬ p.pc = 0 := by omega
  have : ¬ p.pc = 10 := by omega
  have : ¬ p'.pc = 0 := by omega
  simp [*]
theorem came_out {p p' : Sp} (h0 : 10 < p.pc) (h2 : p'.pc = 0 ∨ 10 < p'.pc) : cameK p p' = decide (p'.pc = 0) := by
  unfold cameK
  have : ¬ p.pc = 0 := by omega
  have : ¬ p.pc = 10 := by omega
  have : ¬ p'.pc = 10 := by omega
  simp [*]
theorem askK_pc {k : Nat} {p : Sp} (h : p.pc = 0) : (askK k p).pc = 1 := by
  unfold askK
  rw [if_pos h]
  split <;> rfl
theorem leaveK_pc {p : Sp} (h : p.pc = 10) : (leaveK p).pc = 11 := by
  unfold leaveK
  rw [if_pos h]
theorem askK_pcK {k : Nat} {p : Sp} (hc : pcK k p) : pcK k (askK k p) := by
  by_cases h : p.pc = 0
  · have e := askK_pc (k := k) h
    unfold pcK mcsPc
    rw [e]
    split
    · omega
    split <;> omega
  · unfold askK; rw [if_neg h]; exact hc
theorem leaveK_pcK {k : Nat} {p : Sp} (hc : pcK k p) : pcK k (leaveK p) := by
  by_cases h : p.pc = 10
  · have e := leaveK_pc h
    unfold pcK mcsPc
    rw [e]
    split
    · omega
    split <;> omega
  · unfold leaveK; rw [if_neg h]; exact hc
-- a step at each place
section
variable (c : CoC) (st : Co) (i : Nat) (u b z : Int)
theorem mv1 : coMv c st i ⟨1, u, b, z⟩ = ((stL c st i).1, st.G, setL c st i (stL c st i).2, if camL c st i then ⟨2, u, b, z⟩ else ⟨1, u, b, z⟩) := rfl
theorem mv2 : coMv c st i ⟨2, u, b, z⟩ = if 0 < ldW st.s.W (c.cw (c.node i)) then (loadA st.s (c.cw (c.node i)), st.G, st.L, ⟨10, ldW st.s.W (c.cw (c.node i)), b, z⟩)
    else (loadA st.s (c.cw (c.node i)), st.G.set (c.node i) (askK c.kg (sv st.G (c.node i))), st.L, ⟨3, ldW st.s.W (c.cw (c.node i)), b, z⟩) := rfl
theorem mv3 : coMv c st i ⟨3, u, b, z⟩ = ((stG c st i).1, st.G.set (c.node i) (stG c st i).2, st.L, if camG c st i then ⟨4, u, b, z⟩ else ⟨3, u, b, z⟩) := rfl
theorem mv4 : coMv c st i ⟨4, u, b, z⟩ = (storeA st.s (c.cw (c.node i)) 1, st.G, st.L, ⟨10, 1, b, z⟩) := rfl
theorem mv11 : coMv c st i ⟨11, u, b, z⟩ = (loadA st.s (c.cw (c.node i)), st.G, st.L, ⟨if c.bud < ldW st.s.W (c.cw (c.node i)) then 14 else 12, ldW st.s.W (c.cw (c.node i)), b, z⟩) := rfl
theorem mv12 : coMv c st i ⟨12, u, b, z⟩ = ((aloneK c.kl (c.tl (c.node i)) st.s (c.slot i) (lsp st.L (c.node i) (c.slot i))).1, st.G, st.L,
    ⟨if passB u c.bud (aloneK c.kl (c.tl (c.node i)) st.s (c.slot i) (lsp st.L (c.node i) (c.slot i))).2 then 13 else 14, u, b, z⟩) := rfl
theorem mv13 : coMv c st i ⟨13, u, b, z⟩ = (storeA st.s (c.cw (c.node i)) (u + 1), st.G, setL c st i (leaveK (lsp st.L (c.node i) (c.slot i))), ⟨16, u, b, z⟩) := rfl
theorem mv14 : coMv c st i ⟨14, u, b, z⟩ = (storeA st.s (c.cw (c.node i)) 0, st.G.set (c.node i) (leaveK (sv st.G (c.node i))), st.L, ⟨15, u, b, z⟩) := rfl
theorem mv15 : coMv c st i ⟨15, u, b, z⟩ = if camG c st i then ((stG c st i).1, st.G.set (c.node i) (stG c st i).2, setL c st i (leaveK (lsp st.L (c.node i) (c.slot i))), ⟨16, u, b, z⟩)
    else ((stG c st i).1, st.G.set (c.node i) (stG c st i).2, st.L, ⟨15, u, b, z⟩) := rfl
theorem mv16 : coMv c st i ⟨16, u, b, z⟩ = ((stL c st i).1, st.G, setL c st i (stL c st i).2, if camL c st i then ⟨0, u, b, z⟩ else ⟨16, u, b, z⟩) := rfl
end
/-- where all is, of n threads -/
structure CoV (c : CoC) (n : Nat) (st : Co) : Prop where
  g : ∀ p ∈ st.G, pcK c.kg p
  l : ∀ x ∈ st.L, ∀ p ∈ x, pcK c.kl p
  k : ∀ i, i < n → linkP (sv st.T i) (lsp st.L (c.node i) (c.slot i))
  lT : n ≤ st.T.length
  lG : ∀ i, i < n → c.node i < st.G.length
  lL : ∀ i, i < n → c.node i < st.L.length ∧ c.slot i < (st.L.getD (c.node i) []).length
def Inj (c : CoC) (n : Nat) : Prop := ∀ i j, i < n → j < n → c.node i = c.node j → c.slot i = c.slot j → i = j
theorem lsp_lset {L : List (List Sp)} {n i : Nat} {p : Sp} (hn : n < L.length) (hi : i < (L.getD n []).length) (m j : Nat) : lsp (lset L n i p) m j = if n = m ∧ i = j then p else lsp L m j := by
  unfold lsp lset
  rw [List.getD_eq_getElem?_getD (l := L.set _ _), List.getElem?_set]
  by_cases h1 : n = m
  · subst h1
    rw [if_pos rfl, if_pos hn]
    show (List.set _ _ _).getD _ _ = _
    rw [List.getD_eq_getElem?_getD, List.getElem?_set]
    by_cases h2 : i = j
    · subst h2
      rw [if_pos rfl, if_pos hi, if_pos ⟨rfl, rfl⟩]; rfl
    · rw [if_neg h2, if_neg (fun h => h2 h.2), List.getD_eq_getElem?_getD (l := L.getD n [])]
  · rw [if_neg h1, if_neg (fun h => h1 h.1), List.getD_eq_getElem?_getD (l := L)]
theorem lset_len (L : List (List Sp)) (n i : Nat) (p : Sp) (m : Nat) : ((lset L n i p).getD m []).length = (L.getD m []).length ∧ (lset L n i p).length = L.length := by
  refine ⟨?_, by unfold lset; simp⟩
  unfold lset
  rw [List.getD_eq_getElem?_getD, List.getElem?_set]
  by_cases h1 : n = m
  · subst h1
    rw [if_pos rfl]
    split
    · simp
    · rename_i h
      rw [List.getD_eq_getElem?_getD, List.getElem?_eq_none (by omega)]
  · rw [if_neg h1, List.getD_eq_getElem?_getD]
section
variable {c : CoC} {n : Nat} {st : Co}
theorem CoV.lpc (h : CoV c n st) {i : Nat} (hi : i < n) : pcK c.kl (lsp st.L (c.node i) (c.slot i)) := by
  obtain ⟨h1, h2⟩ := h.lL i hi
  have e1 : st.L.getD (c.node i) [] ∈ st.L := by
    rw [List.getD_eq_getElem?_getD, List.getElem?_eq_getElem h1]; exact List.getElem_mem h1
  have e2 : lsp st.L (c.node i) (c.slot i) ∈ st.L.getD (c.node i) [] := by
    unfold lsp
    rw [List.getD_eq_getElem?_getD (l := st.L.getD _ _), List.getElem?_eq_getElem h2]; exact List.getElem_mem h2
  exact h.l _ e1 _ e2
theorem CoV.gpc (h : CoV c n st) {i : Nat} (hi : i < n) : pcK c.kg (sv st.G (c.node i)) := by
  have h1 := h.lG i hi
  refine h.g _ ?_
  unfold sv
  rw [List.getD_eq_getElem?_getD, List.getElem?_eq_getElem h1]; exact List.getElem_mem h1
theorem CoV.thr (h : CoV c n st) (hI : Inj c n) {i : Nat} (hi : i < n) {t q : Sp} (hl : linkP t q) (j : Nat) (hj : j < n) (L' : List (List Sp)) (hL : lsp L' (c.node i) (c.slot i) = q)
    (ho : ∀ m s, ¬ (c.node i = m ∧ c.slot i = s) → lsp L' m s = lsp st.L m s) : linkP (sv (st.T.set i t) j) (lsp L' (c.node j) (c.slot j)) := by
  rw [sv_set]
  by_cases e : i = j
  · subst e
    rw [if_pos ⟨rfl, by have := h.lT; omega⟩, hL]; exact hl
  · rw [if_neg (fun k => e k.1), ho _ _ (fun k => e (hI i j hi hj k.1 k.2))]; exact h.k j hj
/-- an act that sets a local slot -/
theorem CoV.upd (h : CoV c n st) (hI : Inj c n) {i : Nat} (hi : i < n) (s' : Ar) {G' : List Sp} (hG : ∀ p ∈ G', pcK c.kg p) (hGl : G'.length = st.G.length) {q t : Sp} (hq : pcK c.kl q) (hl : linkP t q) : CoV c n ⟨s', G', setL c st i q, st.T.set i t⟩ := by
  obtain ⟨h1, h2⟩ := h.lL i hi
  refine ⟨hG, ?_, fun j hj => h.thr hI hi hl j hj _ ?_ ?_, by simpa using h.lT, fun j hj => by rw [hGl]; exact h.lG j hj, fun j hj => ?_⟩
  · exact all_set h.l _ (all_set (h.l _ (by rw [List.getD_eq_getElem?_getD, List.getElem?_eq_getElem h1]; exact List.getElem_mem h1)) _ hq)
  · unfold setL; rw [lsp_lset h1 h2, if_pos ⟨rfl, rfl⟩]
  · intro m s hn
    unfold setL; rw [lsp_lset h1 h2, if_neg hn]
  · unfold setL; rw [(lset_len _ _ _ _ _).1, (lset_len _ _ _ _ 0).2]; exact h.lL j hj
/-- an act that sets none -/
theorem CoV.upd0 (h : CoV c n st) (hI : Inj c n) {i : Nat} (hi : i < n) (s' : Ar) {G' : List Sp} (hG : ∀ p ∈ G', pcK c.kg p) (hGl : G'.length = st.G.length) {t : Sp} (hl : linkP t (lsp st.L (c.node i) (c.slot i))) : CoV c n ⟨s', G', st.L, st.T.set i t⟩ :=
  ⟨hG, h.l, fun j hj => h.thr hI hi hl j hj _ rfl (fun _ _ _ => rfl), by simpa using h.lT, fun j hj => by rw [hGl]; exact h.lG j hj, h.lL⟩
/-- a step keeps where all may be -/
theorem coStep_v (h : CoV c n st) (hI : Inj c n) (hk : (1 ≤ c.kg ∧ c.kg ≤ 5) ∧ 1 ≤ c.kl ∧ c.kl ≤ 5) {i : Nat} (hi : i < n) : CoV c n (coStep c st i) := by
  have hlk := h.k i hi
  have hq := h.lpc hi
  have hg := h.gpc hi
  have sL := stepK_pc (t := c.tl (c.node i)) (m := c.m) (s := st.s) (i := (c.slot i : Int)) hk.2 hq
  have sG := stepK_pc (t := c.tg) (m := c.m) (s := st.s) (i := (c.node i : Int)) hk.1 hg
  have hGl : ∀ q : Sp, (st.G.set (c.node i) q).length = st.G.length := fun q => by simp
  have hGs : ∀ q : Sp, pcK c.kg q → ∀ p ∈ st.G.set (c.node i) q, pcK c.kg p := fun q hq => all_set h.g _ hq
  unfold coStep
  split
  · exact h
  rename_i hne
  obtain ⟨p, hp⟩ : ∃ p, p = sv st.T i := ⟨_, rfl⟩
  rw [← hp] at hlk hne ⊢
  obtain ⟨q, hqq⟩ : ∃ q, q = lsp st.L (c.node i) (c.slot i) := ⟨_, rfl⟩
  have hc : p.pc = 1 ∨ p.pc = 2 ∨ p.pc = 3 ∨ p.pc = 4 ∨ p.pc = 11 ∨ p.pc = 12 ∨ p.pc = 13 ∨ p.pc = 14 ∨ p.pc = 15 ∨ p.pc = 16 := by unfold linkP at hlk; omega
  obtain ⟨pc, u, b, z⟩ := p
  simp only at hc
  have hL10 : pc ≠ 0 → pc ≠ 1 → pc ≠ 16 → (lsp st.L (c.node i) (c.slot i)).pc = 10 := fun a0 a1 a2 => by unfold linkP at hlk; simp only at hlk; omega
  have lk : ∀ t : Sp, (t.pc = 2 ∨ t.pc = 3 ∨ t.pc = 4 ∨ t.pc = 10 ∨ t.pc = 11 ∨ t.pc = 12 ∨ t.pc = 13 ∨ t.pc = 14 ∨ t.pc = 15) → ∀ q : Sp, q.pc = 10 → linkP t q := fun t ht q hq => .inr (.inr (.inl ⟨ht, hq⟩))
  have lk16 : ∀ t : Sp, t.pc = 16 → linkP t (leaveK (lsp st.L (c.node i) (c.slot i))) ∨ (lsp st.L (c.node i) (c.slot i)).pc ≠ 10 := fun t ht => by
    by_cases e : (lsp st.L (c.node i) (c.slot i)).pc = 10
    · left; exact .inr (.inr (.inr ⟨ht, by rw [leaveK_pc e]; decide⟩))
    · right; exact e
  have l16 : ∀ t : Sp, t.pc = 16 → (lsp st.L (c.node i) (c.slot i)).pc = 10 → linkP t (leaveK (lsp st.L (c.node i) (c.slot i))) := fun t ht e => (lk16 t ht).resolve_right (fun k => k e)
  rcases hc with rfl | rfl | rfl | rfl | rfl | rfl | rfl | rfl | rfl | rfl
  · have hb : 0 < (lsp st.L (c.node i) (c.slot i)).pc ∧ (lsp st.L (c.node i) (c.slot i)).pc < 10 := by unfold linkP at hlk; simp only at hlk; omega
    have s2 := sL.2.1 hb.1 hb.2
    have ec : camL c st i = decide ((stL c st i).2.pc = 10) := came_in hb.1 hb.2 s2.1
    rw [mv1]
    refine h.upd hI hi _ h.g rfl sL.1 ?_
    show linkP (if camL c st i then _ else _) _
    rw [ec]
    split
    · rename_i e; exact lk _ (.inl rfl) _ (by simpa using e)
    · rename_i e
      refine .inr (.inl ⟨rfl, s2.1, ?_⟩)
      have : ¬ (stL c st i).2.pc = 10 := by simpa using e
      have := s2.2
      show (stL c st i).2.pc < 10
      unfold stL at *
      omega
  · rw [mv2]
    split
    · exact h.upd0 hI hi _ h.g rfl (lk _ (by simp) _ (hL10 (by decide) (by decide) (by decide)))
    · exact h.upd0 hI hi _ (hGs _ (askK_pcK hg)) (hGl _) (lk _ (by simp) _ (hL10 (by decide) (by decide) (by decide)))
  · rw [mv3]
    refine h.upd0 hI hi _ (hGs _ sG.1) (hGl _) ?_
    show linkP (if camG c st i then _ else _) _
    split <;> exact lk _ (by simp) _ (hL10 (by decide) (by decide) (by decide))
  · rw [mv4]
    exact h.upd0 hI hi _ h.g rfl (lk _ (by simp) _ (hL10 (by decide) (by decide) (by decide)))
  · rw [mv11]
    refine h.upd0 hI hi _ h.g rfl (lk _ ?_ _ (hL10 (by decide) (by decide) (by decide)))
    simp only
    split <;> simp
  · rw [mv12]
    refine h.upd0 hI hi _ h.g rfl (lk _ ?_ _ (hL10 (by decide) (by decide) (by decide)))
    simp only
    split <;> simp
  · rw [mv13]
    exact h.upd hI hi _ h.g rfl (leaveK_pcK hq) (l16 _ rfl (hL10 (by decide) (by decide) (by decide)))
  · rw [mv14]
    exact h.upd0 hI hi _ (hGs _ (leaveK_pcK hg)) (hGl _) (lk _ (by simp) _ (hL10 (by decide) (by decide) (by decide)))
  · rw [mv15]
    split
    · exact h.upd hI hi _ (hGs _ sG.1) (hGl _) (leaveK_pcK hq) (l16 _ rfl (hL10 (by decide) (by decide) (by decide)))
    · exact h.upd0 hI hi _ (hGs _ sG.1) (hGl _) (lk _ (by simp) _ (hL10 (by decide) (by decide) (by decide)))
  · have hb : 10 < (lsp st.L (c.node i) (c.slot i)).pc := by unfold linkP at hlk; simp only at hlk; omega
    have s2 := sL.2.2 hb
    have ec : camL c st i = decide ((stL c st i).2.pc = 0) := came_out hb s2
    rw [mv16]
    refine h.upd hI hi _ h.g rfl sL.1 ?_
    show linkP (if camL c st i then _ else _) _
    rw [ec]
    split
    · rename_i e; exact .inl ⟨rfl, by simpa using e⟩
    · rename_i e
      refine .inr (.inr (.inr ⟨rfl, ?_⟩))
      have : ¬ (stL c st i).2.pc = 0 := by simpa using e
      show 10 < (stL c st i).2.pc
      unfold stL at *
      omega
theorem coAsk_v (h : CoV c n st) (hI : Inj c n) {i : Nat} (hi : i < n) : CoV c n (coAsk c st i) := by
  unfold coAsk
  split
  · rename_i e
    have hlk := h.k i hi
    have hq0 : (lsp st.L (c.node i) (c.slot i)).pc = 0 := by unfold linkP at hlk; omega
    exact h.upd hI hi _ h.g rfl (askK_pcK (h.lpc hi)) (.inr (.inl ⟨rfl, by rw [askK_pc hq0]; decide, by rw [askK_pc hq0]; decide⟩))
  · exact h
theorem coLeave_v (h : CoV c n st) (hI : Inj c n) {i : Nat} (hi : i < n) : CoV c n (coLeave st i) := by
  unfold coLeave
  split
  · rename_i e
    have hlk := h.k i hi
    exact h.upd0 hI hi _ h.g rfl (.inr (.inr (.inl ⟨by simp, by unfold linkP at hlk; omega⟩)))
  · exact h
end
end Go.Proofs.YtagajjilccjplaaGreat
end
section
set_option linter.unusedVariables false
set_option linter.unusedSimpArgs false
/- Layer 24 (cohort), plain: one op a step, and what an act leaves alone. No program in sight. -/
namespace Go.Proofs.YtagajjilccjplaaGreat
open Go

def NearA (s s' : Ar) : Prop := s'.ops ≤ s.ops + 1 ∧ s'.W.length = s.W.length
theorem NearA.refl (s : Ar) : NearA s s := ⟨by omega, rfl⟩
theorem nearLoad (s : Ar) (x : Int) : NearA s (loadA s x) := ⟨loadA_ops _ _, by rw [loadA_W]⟩
theorem nearStore (s : Ar) (x v : Int) : NearA s (storeA s x v) := ⟨storeA_ops _ _ _, by rw [storeA_W, stW_len]⟩
theorem nearSwap (s : Ar) (x v : Int) : NearA s (swapA s x v) := ⟨swapA_ops _ _ _, by rw [swapA_W, stW_len]⟩
theorem nearAdd (s : Ar) (x v : Int) : NearA s (addA s x v) := ⟨addA_ops _ _ _, by rw [addA_W, stW_len]⟩
theorem nearCas (s : Ar) (x o v : Int) : NearA s (casA s x o v) := ⟨casA_ops _ _ _ _, by rw [casA_W]; split <;> simp [stW_len]⟩
theorem near_stepK (k : Nat) (t m : Int) (s : Ar) (i : Int) (p : Sp) : NearA s (stepK k t m s i p).1 := by
  unfold stepK tasK tickK partK mcsK mcsIn mcsOut clhK
  (repeat' split) <;> (try dsimp only) <;> first | with_reducible exact NearA.refl _ | with_reducible exact nearLoad _ _ | with_reducible exact nearStore _ _ _ | with_reducible exact nearSwap _ _ _ | with_reducible exact nearAdd _ _ _ | with_reducible exact nearCas _ _ _ _
theorem near_aloneK (k : Nat) (t : Int) (s : Ar) (i : Int) (p : Sp) : NearA s (aloneK k t s i p).1 := by
  unfold aloneK
  (repeat' split) <;> (try dsimp only) <;> first | with_reducible exact NearA.refl _ | with_reducible exact nearLoad _ _
section
variable {c : CoC} {B : Int} {st : Co}
theorem near_coMv (i : Nat) (p : Sp) : NearA st.s (coMv c st i p).1 := by
  unfold coMv coIn coOut stL stG
  (repeat' split) <;> (try dsimp only) <;> first | with_reducible exact NearA.refl _ | with_reducible exact nearLoad _ _ | with_reducible exact nearStore _ _ _ | with_reducible exact near_stepK _ _ _ _ _ _ | with_reducible exact near_aloneK _ _ _ _ _
theorem near_coStep (i : Nat) : NearA st.s (coStep c st i).s := by
  unfold coStep
  split
  · exact NearA.refl _
  · exact near_coMv _ _
theorem near_coAsk (i : Nat) : NearA st.s (coAsk c st i).s := by unfold coAsk; split <;> exact NearA.refl _
theorem near_coLeave (i : Nat) : NearA st.s (coLeave st i).s := by unfold coLeave; split <;> exact NearA.refl _
theorem coStep_bd (h : CoB c B st) (hB : 1 ≤ B) (hB2 : B ≤ 10000000000000) (i : Nat) (hs : (c.slot i : Int) + 1 ≤ B) (hn : (c.node i : Int) + 1 ≤ B) (hm : 1 ≤ c.m ∧ c.m ≤ B) : CoB c (B + 2) (coStep c st i) := by
  unfold coStep
  split
  · exact h.mono (by omega)
  · exact coMv_bd h hB hB2 i hs hn hm _ (h.tsp (by omega) i)
theorem coAsk_bd (h : CoB c B st) (hB : 1 ≤ B) (i : Nat) : CoB c (B + 2) (coAsk c st i) := by
  unfold coAsk
  split
  · have h2 := h.mono (C := B + 2) (by omega)
    exact ⟨h2.w, h2.g, h2.setL _ _ (bd_ask (h2.lsp (by omega) _ _) (by omega)), all_set h2.t i (h2.tsp (by omega) i)⟩
  · exact h.mono (by omega)
theorem coLeave_bd (h : CoB c B st) (hB : 1 ≤ B) (i : Nat) : CoB c (B + 2) (coLeave st i) := by
  unfold coLeave
  split
  · have h2 := h.mono (C := B + 2) (by omega)
    exact ⟨h2.w, h2.g, h2.l, all_set h2.t i (h2.tsp (by omega) i)⟩
  · exact h.mono (by omega)
end
end Go.Proofs.YtagajjilccjplaaGreat
end
