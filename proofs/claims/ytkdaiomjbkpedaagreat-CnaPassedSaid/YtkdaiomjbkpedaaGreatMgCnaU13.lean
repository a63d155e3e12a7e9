/- Joined: PaC, Fld1, Fld2, Trn1, Trn2, Hl1. -/
import Derived.Test.YtkdaiomjbkpedaaGreatRows
import Derived.Tactics
import Derived.RegionCalls
import Derived.Deep.QuietTactic
import Derived.BigQuiet
import Derived.Laws.BitsAllLaws
import Derived.StillTailTactics
import Derived.IntWalk
import Derived.Test.YtkdaiomjbkpedaaGreatMgCnaU1
import Derived.Test.YtkdaiomjbkpedaaGreatMgCnaU2
import Derived.Test.YtkdaiomjbkpedaaGreatMgCnaU4
import Derived.Test.YtkdaiomjbkpedaaGreatMgCnaU7
import Derived.Test.YtkdaiomjbkpedaaGreatMgCnaU12
section
/- path: the table's rows in blocks that a predicate tells (written by wip/gen_pac.py). -/
namespace Go.Proofs.YtkdaiomjbkpedaaGreat
open Go.RowKit

structure Tab0Q (B : Nat → Prop) (w : World) (b : Nat) (P T : List Int) : Prop where
  low : B b
  ex : ∃ AP cP AT cT, Blk w b 140 #[.slice AP P.length cP, .slice AT T.length cT, .int .u32 0, .int .i32 0, .int .u32 0, .slice none 0 0, .slice none 0 0, .slice none 0 0, .slice none 0 0] ∧ RdL w (.slice AP P.length cP) 1 encI P ∧ RdL w (.slice AT T.length cT) 1 encI T ∧ (∀ g, (Value.slice AP P.length cP).ownBlock = some g → g ≠ b) ∧ (∀ g, (Value.slice AT T.length cT).ownBlock = some g → g ≠ b) ∧
    (∀ g, (Value.slice AP P.length cP).ownBlock = some g → B g) ∧ (∀ g, (Value.slice AT T.length cT).ownBlock = some g → B g)
theorem rd_block {α : Type} {w : World} {v : Value} {sz : Nat} {enc : α → List Value} {l : List α} (h : RdL w v sz enc l) (hl : 0 < l.length) {g : Nat} (hg : v.ownBlock = some g) : g < w.heap.size := by
  obtain ⟨A, cap, rfl, _, _, h4⟩ := h
  obtain ⟨b, off, rfl, hb, _⟩ := h4 hl
  injection hg with hg
  subst hg
  exact hb
/-- right behind New -/
theorem Tab0L.q {lo : Nat} {w : World} {b : Nat} {P T : List Int} (hc : chkT P T = 0) (h : Tab0L lo w b P T) : Tab0Q (fun i => lo ≤ i ∧ i < w.heap.size) w b P T := by
  have hml := many_lt (chk_ok hc).1
  obtain ⟨AP, cP, AT, cT, h1, h2, h3, h4, h5, h6, h7⟩ := h.ex
  exact ⟨⟨h.low, h1.lt⟩, AP, cP, AT, cT, h1, h2, h3, h4, h5, fun g hg => ⟨h6 g hg, rd_block h2 (by omega) hg⟩, fun g hg => ⟨h7 g hg, rd_block h3 (by omega) hg⟩⟩
theorem Tab0Q.turns {B : Nat → Prop} {S : List Nat} {w w' : World} {b : Nat} {P T : List Int} (h : Tab0Q B w b P T) (k : Turns S w w') (hS : ∀ i ∈ S, ¬ B i) : Tab0Q B w' b P T := by
  obtain ⟨AP, cP, AT, cT, h1, h2, h3, h4, h5, h6, h7⟩ := h.ex
  exact ⟨h.low, AP, cP, AT, cT, k.blk h1 (fun hm => hS _ hm h.low), h2.turns k (fun g hg hm => hS g hm (h6 g hg)), h3.turns k (fun g hg hm => hS g hm (h7 g hg)), h4, h5, h6, h7⟩
theorem Tab0Q.tab {B : Nat → Prop} {w : World} {b : Nat} {P T : List Int} (hc : chkT P T = 0) (h : Tab0Q B w b P T) : Tab w b P T := by
  obtain ⟨AP, cP, AT, cT, h1, h2, h3, h4, h5, h6, h7⟩ := h.ex
  exact ⟨hc, .inl ⟨AP, cP, AT, cT, h1, h2, h3, h4, h5⟩⟩
def RdQ (B : Nat → Prop) (w : World) (v : Value) (sz : Nat) {α : Type} (enc : α → List Value) (l : List α) : Prop := RdL w v sz enc l ∧ (0 < l.length → ∀ g, v.ownBlock = some g → B g)
theorem RdQ.keep {B : Nat → Prop} {w w' : World} {v : Value} {sz : Nat} {α : Type} {enc : α → List Value} {l : List α} (h : RdQ B w v sz enc l) (k : ∀ i, B i → i < w.heap.size → w'.heap[i]? = w.heap[i]?) (hs : w.heap.size ≤ w'.heap.size) : RdQ B w' v sz enc l := by
  refine ⟨?_, h.2⟩
  obtain ⟨A, cap, rfl, h2, h3, h4⟩ := h.1
  refine ⟨A, cap, rfl, h2, h3, fun hl => ?_⟩
  obtain ⟨b, off, rfl, hb, hc⟩ := h4 hl
  have hb' := h.2 hl b rfl
  refine ⟨b, off, rfl, by omega, fun i x hx j u hu => ?_⟩
  rw [World.cell?_of_block (w := w) (w' := w') (a := ⟨b, off + i * sz + j, none⟩) (k b hb' hb)]
  exact hc i x hx j u hu
theorem RdQ.of {B : Nat → Prop} {w : World} {v : Value} {sz : Nat} {α : Type} {enc : α → List Value} {l : List α} (h : RdL w v sz enc l) (h2 : ∀ g, v.ownBlock = some g → B g) : RdQ B w v sz enc l := ⟨h, fun _ => h2⟩
structure TabQ (B : Nat → Prop) (w : World) (b : Nat) (P T : List Int) : Prop where
  ok : chkT P T = 0
  low : B b
  ex : ∃ AP cP AT cT vU vN vS vM us, Blk w b 140 (tabC (.slice AP P.length cP) (.slice AT T.length cT) 1 0 vU vN vS vM) ∧ RdQ B w (.slice AP P.length cP) 1 encI P ∧ RdQ B w (.slice AT T.length cT) 1 encI T ∧
    RdQ B w vN 1 encI (nodesTo P T T.length) ∧ RdQ B w vS 1 encI (slotsTo T T.length) ∧ RdQ B w vM 1 encI (matesTo P T T.length) ∧
    RdQ B w vU 1 (fun v => [v]) us ∧ us.length = T.length ∧ ∀ (i : Nat) (x : Int) (v : Value), T[i]? = some x → us[i]? = some v → RdQ B w v 1 encI (upL P x)
theorem TabQ.f {B : Nat → Prop} {w : World} {b : Nat} {P T : List Int} (h : TabQ B w b P T) : TabF w b P T := by
  obtain ⟨AP, cP, AT, cT, vU, vN, vS, vM, us, h1, h2, h3, h4, h5, h6, h7, h8, h9⟩ := h.ex
  exact ⟨h.ok, AP, cP, AT, cT, vU, vN, vS, vM, us, h1, h2.1, h3.1, h4.1, h5.1, h6.1, h7.1, h8, fun i x v a c => (h9 i x v a c).1⟩
theorem TabQ.turns {B : Nat → Prop} {S : List Nat} {w w' : World} {b : Nat} {P T : List Int} (h : TabQ B w b P T) (t : Turns S w w') (hS : ∀ i ∈ S, ¬ B i) : TabQ B w' b P T := by
  have k : ∀ i, B i → i < w.heap.size → w'.heap[i]? = w.heap[i]? := fun i hi hl => t.block i hl fun hm => hS i hm hi
  have hs := t.size
  obtain ⟨AP, cP, AT, cT, vU, vN, vS, vM, us, h1, h2, h3, h4, h5, h6, h7, h8, h9⟩ := h.ex
  exact ⟨h.ok, h.low, AP, cP, AT, cT, vU, vN, vS, vM, us, (k b h.low h1.lt).trans h1, h2.keep k hs, h3.keep k hs, h4.keep k hs, h5.keep k hs, h6.keep k hs, h7.keep k hs, h8, fun i x v a c => (h9 i x v a c).keep k hs⟩
theorem RdQ.mono {B C : Nat → Prop} {w : World} {v : Value} {sz : Nat} {α : Type} {enc : α → List Value} {l : List α} (h : RdQ B w v sz enc l) (k : ∀ i, B i → C i) : RdQ C w v sz enc l := ⟨h.1, fun hl g hg => k g (h.2 hl g hg)⟩
theorem TabQ.mono {B C : Nat → Prop} {w : World} {b : Nat} {P T : List Int} (h : TabQ B w b P T) (k : ∀ i, B i → C i) : TabQ C w b P T := by
  obtain ⟨AP, cP, AT, cT, vU, vN, vS, vM, us, h1, h2, h3, h4, h5, h6, h7, h8, h9⟩ := h.ex
  exact ⟨h.ok, k _ h.low, AP, cP, AT, cT, vU, vN, vS, vM, us, h1, h2.mono k, h3.mono k, h4.mono k, h5.mono k, h6.mono k, h7.mono k, h8, fun i x v a c => (h9 i x v a c).mono k⟩
theorem TabQ.size {B : Nat → Prop} {m n : Nat} {w : World} {b : Nat} {P T : List Int} (h : TabQ (fun i => B i ∨ m ≤ i) w b P T) (e : m = n) : TabQ (fun i => B i ∨ n ≤ i) w b P T := by subst e; exact h
theorem tab_of_findQ {w1 w2 : World} {b : Nat} {AP AT : Option Addr} {cP cT : Nat} {P T : List Int} {vL vU vN vS vM : Value} {us : List ORow} (hc : chkT P T = 0)
    (h : FindIs w1 w2 b (.slice AP P.length cP) (.slice AT T.length cT) P T vL vU vN vS vM us T.length)
    (hP : RdL w1 (.slice AP P.length cP) 1 encI P) (hT : RdL w1 (.slice AT T.length cT) 1 encI T)
    (nP : ∀ g, (Value.slice AP P.length cP).ownBlock = some g → g ≠ b) (nT : ∀ g, (Value.slice AT T.length cT).ownBlock = some g → g ≠ b) {B : Nat → Prop} (hlo : B b) (lP : ∀ g, (Value.slice AP P.length cP).ownBlock = some g → B g) (lT : ∀ g, (Value.slice AT T.length cT).ownBlock = some g → B g) :
    TabQ (fun i => B i ∨ w1.heap.size ≤ i) (onceEnd b 2 w2) b P T ∧ Turns [b] w1 (onceEnd b 2 w2) := by
  have hml := many_lt (chk_ok hc).1
  have hll : (leavesL P).length ≤ 32 := by have := leavesTo_len P P.length; show (leavesTo P P.length).length ≤ _; omega
  have k0 : Turns [b] w2 (onceEnd b 2 w2) := ((Turns.refl [b] w2).drew.setCell (.inl (by simp)) _).setCell (.inl (by simp)) _
  have k1 := h.bel.trans k0
  have hr : ∀ r ∈ ([intRow vL (leavesL P), intRow vM (matesTo P T T.length), intRow vN (nodesTo P T T.length), intRow vS (slotsTo T T.length), upRow (us.map (·.v)) vU] ++ us), (onceEnd b 2 w2).ownsRow w1.heap.size r.e 1 r.v r.n r.xs := fun r hr => (h.rows.turn k0).own r hr
  have hrl : ∀ r ∈ ([intRow vL (leavesL P), intRow vM (matesTo P T T.length), intRow vN (nodesTo P T T.length), intRow vS (slotsTo T T.length), upRow (us.map (·.v)) vU] ++ us), ∀ g, r.v.ownBlock = some g → (B g ∨ w1.heap.size ≤ g) := fun r hm g hg => .inr ((hr r hm).lt g hg).1
  refine ⟨⟨hc, .inl hlo, AP, cP, AT, cT, vU, vN, vS, vM, us.map (·.v), ?_, RdQ.of (hP.turns k1 (fun g hg hm => by simp at hm; exact nP g hg hm)) (fun g hg => .inl (lP g hg)), RdQ.of (hT.turns k1 (fun g hg hm => by simp at hm; exact nT g hg hm)) (fun g hg => .inl (lT g hg)), RdQ.of ?_ (hrl (intRow vN (nodesTo P T T.length)) (by simp)), RdQ.of ?_ (hrl (intRow vS (slotsTo T T.length)) (by simp)), RdQ.of ?_ (hrl (intRow vM (matesTo P T T.length)) (by simp)), RdQ.of ?_ (hrl (upRow (us.map (·.v)) vU) (by simp)), by simp [h.len], fun i x v hi hv => ?_⟩, k1⟩
  · exact ((h.blk.drew).set_ 2 (.int .u32 1)).set_ 3 (.int .i32 0)
  · exact own_rdl (hr (intRow vN (nodesTo P T T.length)) (by simp)) (by rw [nodesTo_len (Nat.le_refl _)]; omega)
  · exact own_rdl (hr (intRow vS (slotsTo T T.length)) (by simp)) (by rw [slotsTo_len]; omega)
  · exact own_rdl (hr (intRow vM (matesTo P T T.length)) (by simp)) (by rw [matesTo_len]; omega)
  · have h1 := hr (upRow (us.map (·.v)) vU) (by simp)
    refine RdL.of_own (enc := fun v => [v]) (sz := 1) (fun _ => rfl) rfl (by rw [List.length_map, h.len]; omega) (e := 22) (base := w1.heap.size) ?_
    have e : (us.map (·.v)).flatMap (fun (v : Value) => [v]) = us.map (·.v) := by simp
    rw [e]
    exact h1
  · rw [List.getElem?_map] at hv
    cases hu : us[i]? with
    | none => rw [hu] at hv; cases hv
    | some r =>
      rw [hu] at hv
      injection hv with hv
      subst hv
      have hrr := h.up i x r hi hu
      have ho := hr r (by simp [List.mem_of_getElem? hu])
      rw [hrr] at ho
      refine RdQ.of (own_rdl ho (by have := upL_le P x; omega)) (fun g hg => hrl r (by simp [List.mem_of_getElem? hu]) g ?_)
      rw [hrr]; exact hg
theorem found_firstQ (B : Nat → Prop) (w : World) (b : Nat) (P T : List Int) (hc : chkT P T = 0) (h : Tab0Q B w b P T) :
    Calls Tryz.prog 116 #[.pointer (some ⟨b, 0, none⟩)] w fun e w' => e = .returned (.pointer (some ⟨b, 0, none⟩)) ∧ TabQ (fun i => B i ∨ w.heap.size ≤ i) w' b P T ∧ Turns [b] w w' := by
  have hlo := h.low
  obtain ⟨AP, cP, AT, cT, hB, hP, hT, nP, nT, lP, lT⟩ := h.ex
  have k0 : Turns [b] w (w.setCell ⟨b, 3, none⟩ (.int .i32 1)) := Turns.setCell (Turns.refl [b] w) (.inl (by simp)) _
  have hP1 := hP.turns k0 (fun g hg hm => by simp at hm; exact nP g hg hm)
  have hT1 := hT.turns k0 (fun g hg hm => by simp at hm; exact nT g hg hm)
  have hf := find_any (w.setCell ⟨b, 3, none⟩ (.int .i32 1)) b AP AT cP cT P T hc (hB.set_ 3 (.int .i32 1)) hP1 hT1 nP nT
  have HD := Lib.hid (do_first b 2 (.pointer (some ⟨b, 0, none⟩)) w (fun w2 => TabQ (fun i => B i ∨ w.heap.size ≤ i) (onceEnd b 2 w2) b P T ∧ Turns [b] w (onceEnd b 2 w2)) (hB.cell 2) (hB.cell 3) (hB.free 2) (hB.free 3)
    (hf.mono fun e w2 ⟨he, vL, vU, vN, vS, vM, us, hF⟩ => ⟨he, ⟨hF.blk.cell 2, hF.blk.cell 3, hF.blk.free 2, hF.blk.free 3⟩, (tab_of_findQ hc hF hP1 hT1 nP nT hlo lP lT).1.size (by simp), k0.trans (tab_of_findQ hc hF hP1 hT1 nP nT hlo lP lT).2⟩))
  clear hf hP1 hT1 hB hP hT nP nT lP lT k0 hc h hlo
  go_enter Tryz.func116, Tryz.ntmps116
  go_wp2_with fail
  refine HD.out.mono ?_
  rintro en w' ⟨rfl, w2, hR, hw⟩
  have HR := Lib.hid (show TabQ (fun i => B i ∨ w.heap.size ≤ i) w' b P T ∧ Turns [b] w w' by rw [hw]; exact hR)
  clear hR hw
  go_wp2
  go_ret
  exact ⟨rfl, HR.out⟩
/-- a thread's node, when the table is found by that -/
theorem nodeFst (B : Nat → Prop) (w : World) (b : Nat) (P T : List Int) (hc : chkT P T = 0) (i : Nat) (hi : i < T.length) (h : Tab0Q B w b P T) (x : Int) (hx : (nodesTo P T T.length)[i]? = some x) :
    Calls Tryz.prog 86 #[.pointer (some ⟨b, 0, none⟩), .int .i64 i] w fun e w' => e = .returned (.int .i64 x) ∧ TabQ (fun i => B i ∨ w.heap.size ≤ i) w' b P T ∧ Turns [b] w w' := by
  have HF := Lib.hid (found_firstQ B w b P T hc h)
  have HH := Lib.hid (has_b w b P T i true (decide_eq_true (by omega)) (h.tab hc))
  have HX := Lib.hid hx
  clear h hx
  go_enter Tryz.func86, Tryz.ntmps86
  go_wp2_with fail
  refine HH.out.mono ?_
  rintro en w' ⟨rfl, rfl⟩
  go_wp2_with fail
  refine HF.out.mono ?_
  rintro en w1 ⟨rfl, hF0, t1⟩
  have HTF := Lib.hid (And.intro hF0 t1)
  clear t1
  have hF := hF0.f
  clear hF0
  obtain ⟨AP, cP, AT, cT, vU, vN, vS, vM, us, h1, h2, h3, h4, h5, h6, h7, h8, h9⟩ := hF.ex
  have hl : (nodesTo P T T.length).length = T.length := nodesTo_len (Nat.le_refl _)
  obtain ⟨AM, cM, rfl, _, _⟩ := rdl_form h4
  obtain ⟨b1, o1, hA, _, hc1⟩ := rdl_int h4 (by omega)
  subst hA
  have q1 := hc1 i x HX.out
  have c8 := h1.cell 6
  rw [hl] at *
  simp only [tabC] at c8
  clear hF h1 h2 h3 h4 h5 h6 h7 h8 h9 hc1 hl
  go_wp2
  go_ret
  exact ⟨rfl, HTF.out⟩
end Go.Proofs.YtkdaiomjbkpedaaGreat
end
section
/- Layer 2: the parts of a word. -/
namespace Go.Proofs.YtkdaiomjbkpedaaGreat
open Go.RowKit

def lowI (p : Int) : Int × Int := if p = 0 then (0, 16) else if p = 1 then (16, 47) else (63, 1)
theorem low_any (w : World) (p : Int) : Calls Tryz.prog 168 #[.int .i64 p] w fun e w' => e = .returned (.tuple #[.int .i64 (lowI p).1, .int .i64 (lowI p).2]) ∧ w = w' := by
  unfold lowI
  by_cases h0 : p = 0
  · subst h0
    go_enter Tryz.func168, Tryz.ntmps168
    go_wp2
    go_ret2
    exact ⟨rfl, rfl⟩
  · by_cases h1 : p = 1
    · subst h1
      clear h0
      go_enter Tryz.func168, Tryz.ntmps168
      go_wp2
      go_ret2
      exact ⟨rfl, rfl⟩
    · rw [if_neg h0, if_neg h1]
      have t0 : (p == 0) = false := by simpa using h0
      have t1 : (p == 1) = false := by simpa using h1
      clear h0 h1
      go_enter Tryz.func168, Tryz.ntmps168
      go_wp2
      go_ret2
      exact ⟨rfl, rfl⟩
theorem and_mask (x : Nat) (k : Nat) (hx : x < 18446744073709551616) (hk : k < 64) : bits .and .u64 (x : Int) ((2 ^ k - 1 : Nat) : Int) = ((x % 2 ^ k : Nat) : Int) := by
  have : 2 ^ k - 1 < 18446744073709551616 := by
    have : 2 ^ k ≤ 2 ^ 63 := Nat.pow_le_pow_right (by decide) (by omega)
    omega
  rw [u64_and_nat x (2 ^ k - 1) hx this, Nat.and_two_pow_sub_one_eq_mod]
theorem val_index (x : Int) (h0 : 0 ≤ x) (h1 : x < 9223372036854775808) : wrap64 (bits .and .u64 x 65535) = x % 65536 := by
  obtain ⟨n, rfl⟩ := Int.eq_ofNat_of_zero_le h0
  have := and_mask n 16 (by omega) (by decide)
  rw [show ((2 ^ 16 - 1 : Nat) : Int) = 65535 by decide] at this
  rw [this]
  unfold wrap64
  omega
theorem val_number (x : Int) (h0 : 0 ≤ x) (h1 : x < 9223372036854775808) : wrap64 (bits .and .u64 (x / 65536) 140737488355327) = x / 65536 := by
  obtain ⟨n, rfl⟩ := Int.eq_ofNat_of_zero_le h0
  have := and_mask (n / 65536) 47 (by omega) (by decide)
  rw [show ((2 ^ 47 - 1 : Nat) : Int) = 140737488355327 by decide] at this
  rw [show ((n : Int) / 65536) = ((n / 65536 : Nat) : Int) by omega, this, show (2 ^ 47 : Nat) = 140737488355328 by decide]
  unfold wrap64
  omega
theorem val_mark (x : Int) (h0 : 0 ≤ x) (h1 : x < 9223372036854775808) : wrap64 (bits .and .u64 (x / 9223372036854775808) 1) = 0 := by
  rw [show x / 9223372036854775808 = 0 by omega]
  decide +kernel
theorem val_set0 (v : Int) (h2 : 0 ≤ v) (h3 : v < 65536) : wrap64 (bits .or .u64 (bits .andNot .u64 0 65535) (bits .and .u64 v 65535)) = v := by
  obtain ⟨n, rfl⟩ := Int.eq_ofNat_of_zero_le h2
  have := and_mask n 16 (by omega) (by decide)
  rw [show ((2 ^ 16 - 1 : Nat) : Int) = 65535 by decide, show (2 ^ 16 : Nat) = 65536 by decide, Nat.mod_eq_of_lt (by omega)] at this
  rw [this, show bits .andNot .u64 0 65535 = ((0 : Nat) : Int) by decide +kernel, u64_or_nat 0 n (by decide) (by omega), Nat.zero_or]
  unfold wrap64
  omega
theorem or_parts (x v : Nat) (hx : x < 65536) : x ||| (v * 65536) = v * 65536 + x := by
  have := Nat.two_pow_add_eq_or_of_lt (i := 16) (b := x) (by omega) v
  rw [Nat.or_comm, ← show 2 ^ 16 * v = v * 65536 by omega]
  exact this.symm
theorem val_set1 (x v : Int) (h0 : 0 ≤ x) (h1 : x < 65536) (h2 : 0 ≤ v) (h3 : v < 140737488355328) : wrap64 (bits .or .u64 (bits .andNot .u64 x 9223372036854710272) (bits .and .u64 (v * 65536) 9223372036854710272)) = v * 65536 + x := by
  obtain ⟨n, rfl⟩ := Int.eq_ofNat_of_zero_le h0
  obtain ⟨m, rfl⟩ := Int.eq_ofNat_of_zero_le h2
  have hn : n < 65536 := by omega
  have hm : m < 140737488355328 := by omega
  have e1 : bits .andNot .u64 (n : Int) 9223372036854710272 = ((n : Nat) : Int) := by
    have := u64_andNot_nat n 9223372036854710272 (by omega) (by decide)
    rw [show ((9223372036854710272 : Nat) : Int) = 9223372036854710272 by decide] at this
    rw [this]
    congr 1
    apply Nat.eq_of_testBit_eq
    intro i
    rw [Nat.testBit_and]
    by_cases hi : i < 16
    · have : (18446744073709551615 - 9223372036854710272 : Nat).testBit i = true := by
        have : ∀ i, i < 16 → (18446744073709551615 - 9223372036854710272 : Nat).testBit i = true := by decide
        exact this i hi
      rw [this, Bool.and_true]
    · rw [Nat.testBit_lt_two_pow (x := n) (i := i) (Nat.lt_of_lt_of_le hn (by have := Nat.pow_le_pow_right (n := 2) (by decide) (show 16 ≤ i by omega); omega)), Bool.false_and]
  have e2 : bits .and .u64 ((m : Int) * 65536) 9223372036854710272 = ((m * 65536 : Nat) : Int) := by
    have := u64_and_nat (m * 65536) 9223372036854710272 (by omega) (by decide)
    rw [show ((9223372036854710272 : Nat) : Int) = 9223372036854710272 by decide, show ((m * 65536 : Nat) : Int) = (m : Int) * 65536 by omega] at this
    rw [this]
    congr 1
    have : (9223372036854710272 : Nat) = (2 ^ 47 - 1) * 2 ^ 16 := by decide
    rw [this, show m * 65536 = m * 2 ^ 16 by omega, ← Nat.shiftLeft_eq, ← Nat.shiftLeft_eq, ← Nat.shiftLeft_and_distrib, Nat.and_two_pow_sub_one_eq_mod, Nat.mod_eq_of_lt (by omega)]
  rw [e1, e2, u64_or_nat n (m * 65536) (by omega) (by omega), or_parts n m hn]
  unfold wrap64
  omega
theorem get_index (w : World) (x : Int) (h0 : 0 ≤ x) (h1 : x < 9223372036854775808) : Calls Tryz.prog 163 #[.int .i64 x, .int .i64 0] w fun e w' => e = .returned (.int .i64 (x % 65536)) ∧ Below w.heap.size w w' := by
  have HV := Lib.hid (val_index x h0 h1)
  go_enter Tryz.func163, Tryz.ntmps163
  go_wp2_with fail
  refine (low_any _ _).mono ?_
  rintro en w' ⟨rfl, rfl⟩
  rw [show (lowI 0).1 = 0 from rfl, show (lowI 0).2 = 16 from rfl]
  go_wp2
  go_quiet (fail)
  go_wp2
  go_ret
  exact ⟨by rw [HV.out]; rfl, Qt.below ⟨_, rfl⟩ _⟩
theorem get_number (w : World) (x : Int) (h0 : 0 ≤ x) (h1 : x < 9223372036854775808) : Calls Tryz.prog 163 #[.int .i64 x, .int .i64 1] w fun e w' => e = .returned (.int .i64 (x / 65536)) ∧ Below w.heap.size w w' := by
  have HV := Lib.hid (val_number x h0 h1)
  go_enter Tryz.func163, Tryz.ntmps163
  go_wp2_with fail
  refine (low_any _ _).mono ?_
  rintro en w' ⟨rfl, rfl⟩
  rw [show (lowI 1).1 = 16 from rfl, show (lowI 1).2 = 47 from rfl]
  go_wp2
  go_quiet (fail)
  go_wp2
  go_ret
  exact ⟨by rw [HV.out]; rfl, Qt.below ⟨_, rfl⟩ _⟩
theorem get_mark (w : World) (x : Int) (h0 : 0 ≤ x) (h1 : x < 9223372036854775808) : Calls Tryz.prog 163 #[.int .i64 x, .int .i64 2] w fun e w' => e = .returned (.int .i64 (0)) ∧ Below w.heap.size w w' := by
  have HV := Lib.hid (val_mark x h0 h1)
  go_enter Tryz.func163, Tryz.ntmps163
  go_wp2_with fail
  refine (low_any _ _).mono ?_
  rintro en w' ⟨rfl, rfl⟩
  rw [show (lowI 2).1 = 63 from rfl, show (lowI 2).2 = 1 from rfl]
  go_wp2
  go_quiet (fail)
  go_wp2
  go_ret
  exact ⟨by rw [HV.out]; rfl, Qt.below ⟨_, rfl⟩ _⟩
theorem mark_qt (w : World) (x : Int) (h0 : 0 ≤ x) (h1 : x < 9223372036854775808) : Calls Tryz.prog 163 #[.int .i64 x, .int .i64 2] w fun e w' => e = .returned (.int .i64 (0)) ∧ Qt w w' := by
  have HV := Lib.hid (val_mark x h0 h1)
  go_enter Tryz.func163, Tryz.ntmps163
  go_wp2_with fail
  refine (low_any _ _).mono ?_
  rintro en w' ⟨rfl, rfl⟩
  rw [show (lowI 2).1 = 63 from rfl, show (lowI 2).2 = 1 from rfl]
  go_wp2
  go_quiet (fail)
  go_wp2
  go_ret
  exact ⟨by rw [HV.out]; rfl, ⟨_, rfl⟩⟩
theorem set_index (w : World) (x v : Int) (hx : x = 0) (h2 : 0 ≤ v) (h3 : v < 65536) : Calls Tryz.prog 162 #[.int .i64 x, .int .i64 0, .int .i64 v] w fun e w' => e = .returned (.int .i64 (v)) ∧ Below w.heap.size w w' := by
  subst hx
  have HV := Lib.hid (val_set0 v h2 h3)
  go_enter Tryz.func162, Tryz.ntmps162
  go_wp2_with fail
  refine (low_any _ _).mono ?_
  rintro en w' ⟨rfl, rfl⟩
  rw [show (lowI 0).1 = 0 from rfl, show (lowI 0).2 = 16 from rfl]
  go_wp2
  go_ret
  exact ⟨by rw [HV.out]; rfl, Below.refl _ _⟩
theorem set_number (w : World) (x v : Int) (h0 : 0 ≤ x) (h1 : x < 65536) (h2 : 0 ≤ v) (h3 : v < 140737488355328) : Calls Tryz.prog 162 #[.int .i64 x, .int .i64 1, .int .i64 v] w fun e w' => e = .returned (.int .i64 (v * 65536 + x)) ∧ Below w.heap.size w w' := by
  have HV := Lib.hid (val_set1 x v h0 h1 h2 h3)
  go_enter Tryz.func162, Tryz.ntmps162
  go_wp2_with fail
  refine (low_any _ _).mono ?_
  rintro en w' ⟨rfl, rfl⟩
  rw [show (lowI 1).1 = 16 from rfl, show (lowI 1).2 = 47 from rfl]
  go_wp2
  go_ret
  exact ⟨by rw [HV.out]; rfl, Below.refl _ _⟩
end Go.Proofs.YtkdaiomjbkpedaaGreat
end
section
/- Layer 2: Pack, Index, Number, Marked. -/
namespace Go.Proofs.YtkdaiomjbkpedaaGreat
open Go.RowKit

theorem fidx_any (w : World) (x : Int) (h0 : 0 ≤ x) (h1 : x < 9223372036854775808) : Calls Tryz.prog 147 #[.int .i64 x] w fun e w' => e = .returned (.int .i64 (x % 65536)) ∧ Below w.heap.size w w' := by
  go_enter Tryz.func147, Tryz.ntmps147
  go_wp2_with fail
  refine (get_index w x h0 h1).mono ?_
  rintro en w1 ⟨rfl, b1⟩
  have B1 := Lib.hid b1
  clear b1
  go_wp2
  go_ret
  exact ⟨rfl, B1.out⟩
theorem fnum_any (w : World) (x : Int) (h0 : 0 ≤ x) (h1 : x < 9223372036854775808) : Calls Tryz.prog 149 #[.int .i64 x] w fun e w' => e = .returned (.int .i64 (x / 65536)) ∧ Below w.heap.size w w' := by
  go_enter Tryz.func149, Tryz.ntmps149
  go_wp2_with fail
  refine (get_number w x h0 h1).mono ?_
  rintro en w1 ⟨rfl, b1⟩
  have B1 := Lib.hid b1
  clear b1
  go_wp2
  go_ret
  exact ⟨rfl, B1.out⟩
theorem marked_any (w : World) (x : Int) (h0 : 0 ≤ x) (h1 : x < 9223372036854775808) : Calls Tryz.prog 148 #[.int .i64 x] w fun e w' => e = .returned (.bool false) ∧ Below w.heap.size w w' := by
  go_enter Tryz.func148, Tryz.ntmps148
  go_wp2_with fail
  refine (get_mark w x h0 h1).mono ?_
  rintro en w1 ⟨rfl, b1⟩
  have B1 := Lib.hid b1
  clear b1
  go_wp2
  go_ret
  exact ⟨rfl, B1.out⟩
theorem marked_qt (w : World) (x : Int) (h0 : 0 ≤ x) (h1 : x < 9223372036854775808) : Calls Tryz.prog 148 #[.int .i64 x] w fun e w' => e = .returned (.bool false) ∧ Qt w w' := by
  go_enter Tryz.func148, Tryz.ntmps148
  go_wp2_with fail
  refine (mark_qt w x h0 h1).mono ?_
  rintro en w1 ⟨rfl, b1⟩
  have B1 := Lib.hid b1
  clear b1
  go_wp2
  go_ret
  exact ⟨rfl, B1.out⟩
theorem fits_index (w : World) (v : Int) (h2 : 0 ≤ v) (h3 : v < 65536) : Calls Tryz.prog 161 #[.int .i64 0, .int .i64 v] w fun e w' => e = .returned (.bool true) ∧ Below w.heap.size w w' := by
  go_enter Tryz.func161, Tryz.ntmps161
  go_wp2_with fail
  refine (set_index w 0 v rfl h2 h3).mono ?_
  rintro en w1 ⟨rfl, b1⟩
  have B1 := Lib.hid b1
  clear b1
  go_wp2_with fail
  refine (get_index w1 v h2 (by omega)).mono ?_
  rintro en w2 ⟨rfl, b2⟩
  have B2 := Lib.hid (B1.out.trans (b2.mono B1.out.size))
  have e : v % 65536 = v := by omega
  rw [e]
  clear b2 e
  go_wp2
  go_ret
  exact ⟨ret_bool (by simp), B2.out⟩
theorem fits_number (w : World) (v : Int) (h2 : 0 ≤ v) (h3 : v < 140737488355328) : Calls Tryz.prog 161 #[.int .i64 1, .int .i64 v] w fun e w' => e = .returned (.bool true) ∧ Below w.heap.size w w' := by
  go_enter Tryz.func161, Tryz.ntmps161
  go_wp2_with fail
  refine (set_number w 0 v (by omega) (by omega) h2 h3).mono ?_
  rintro en w1 ⟨rfl, b1⟩
  have B1 := Lib.hid b1
  clear b1
  obtain ⟨x, hx⟩ : ∃ x, x = v * 65536 + 0 := ⟨_, rfl⟩
  rw [← hx]
  have HX := Lib.hid hx
  clear hx
  go_wp2_with fail
  refine (get_number w1 x (by have := HX.out; omega) (by have := HX.out; omega)).mono ?_
  rintro en w2 ⟨rfl, b2⟩
  have B2 := Lib.hid (B1.out.trans (b2.mono B1.out.size))
  have e : x / 65536 = v := by have := HX.out; omega
  rw [e]
  clear b2 e
  go_wp2
  go_ret
  exact ⟨ret_bool (by simp), B2.out⟩
theorem pack_any (w : World) (i n : Int) (h0 : 0 ≤ i) (h1 : i < 65536) (h2 : 0 ≤ n) (h3 : n < 140737488355328) : Calls Tryz.prog 146 #[.int .i64 i, .int .i64 n] w fun e w' => e = .returned (.tuple #[.int .i64 (n * 65536 + i), .int .i64 0]) ∧ Below w.heap.size w w' := by
  go_enter Tryz.func146, Tryz.ntmps146
  go_wp2_with fail
  refine (fits_index w i h0 h1).mono ?_
  rintro en w1 ⟨rfl, b1⟩
  have B1 := Lib.hid b1
  clear b1
  go_wp2_with fail
  refine (fits_number w1 n h2 h3).mono ?_
  rintro en w2 ⟨rfl, b2⟩
  have B2 := Lib.hid (B1.out.trans (b2.mono B1.out.size))
  clear b2
  go_wp2_with fail
  refine (set_index w2 0 i rfl h0 h1).mono ?_
  rintro en w3 ⟨rfl, b3⟩
  have B3 := Lib.hid (B2.out.trans (b3.mono B2.out.size))
  clear b3
  go_wp2_with fail
  refine (set_number w3 i n h0 h1 h2 h3).mono ?_
  rintro en w4 ⟨rfl, b4⟩
  have B4 := Lib.hid (B3.out.trans (b4.mono B3.out.size))
  clear b4
  go_wp2
  go_ret2
  exact ⟨rfl, B4.out⟩
end Go.Proofs.YtkdaiomjbkpedaaGreat
end
section
/- Layer 28: turns: Slots, has, Next, Is. -/
namespace Go.Proofs.YtkdaiomjbkpedaaGreat
open Go.RowKit

def tuC (a : Nat) (f : Int) (n : Nat) (D : List Int) : List Value := [.pointer (some ⟨a, 0, none⟩), .int .i64 f, .int .i64 n] ++ D.map (Value.int .i64)
structure TuIs (w : World) (u a : Nat) (f : Int) (n : Nat) (D : List Int) : Prop where
  blk : Blk w u 144 (tuC a f n D).toArray
  len : D.length = 32
  n32 : n ≤ 32
  f0 : 0 ≤ f ∧ f ≤ 5000
section
variable {w w' : World} {u a : Nat} {f : Int} {n : Nat} {D : List Int}
theorem TuIs.c0 (h : TuIs w u a f n D) : w.cell? ⟨u, 0, none⟩ = some (.pointer (some ⟨a, 0, none⟩)) := h.blk.cell 0
theorem TuIs.c1 (h : TuIs w u a f n D) : w.cell? ⟨u, 1, none⟩ = some (.int .i64 f) := h.blk.cell 1
theorem TuIs.c2 (h : TuIs w u a f n D) : w.cell? ⟨u, 2, none⟩ = some (.int .i64 n) := h.blk.cell 2
theorem TuIs.c3 (h : TuIs w u a f n D) {i : Nat} (hi : i < 32) : w.cell? ⟨u, 3 + i, none⟩ = some (.int .i64 (dv D i)) := by
  rw [h.blk.cell (3 + i)]
  have hl := h.len
  unfold tuC dv
  rw [List.getElem?_toArray, List.getElem?_append_right (by simp)]
  simp [List.getD_eq_getElem?_getD, List.getElem?_eq_getElem (show i < D.length by omega)]
theorem TuIs.turns (h : TuIs w u a f n D) {S : List Nat} (k : Turns S w w') (hu : u ∉ S) : TuIs w' u a f n D := ⟨k.blk h.blk hu, h.len, h.n32, h.f0⟩
theorem TuIs.below (h : TuIs w u a f n D) (k : Below w.heap.size w w') : TuIs w' u a f n D := h.turns (Turns.of_below (S := []) k) (by simp)
theorem slotsU (h : TuIs w u a f n D) : Calls Tryz.prog 160 #[.pointer (some ⟨u, 0, none⟩)] w fun e w' => e = .returned (.int .i64 n) ∧ w = w' := by
  have c2 := h.c2
  clear h
  go_enter Tryz.func160, Tryz.ntmps160
  go_wp2
  go_ret
  exact ⟨rfl, rfl⟩
theorem hasU (h : TuIs w u a f n D) (i : Int) (b : Bool) (hb : decide (0 ≤ i ∧ i < n) = b) : Calls Tryz.prog 145 #[.pointer (some ⟨u, 0, none⟩), .int .i64 i] w fun e w' => e = .returned (.bool b) ∧ w = w' := by
  have H := Lib.hid h
  have HB := Lib.hid hb
  clear h hb
  go_enter Tryz.func145, Tryz.ntmps145
  by_cases h0 : 0 ≤ i
  · go_wp2_with fail
    refine (slotsU H.out).mono ?_
    rintro en w' ⟨rfl, rfl⟩
    go_wp2
    go_ret
    exact ⟨ret_bool (by rw [← HB.out]; simp [h0]), rfl⟩
  · go_wp2
    go_ret
    exact ⟨ret_bool (by rw [← HB.out]; symm; exact decide_eq_false (by omega)), rfl⟩
set_option maxHeartbeats 400000 in
theorem nextU (h : TuIs w u a f n D) (i : Nat) (hi : i < n) (hd : 0 ≤ dv D i ∧ dv D i < 1000000000) : Calls Tryz.prog 118 #[.pointer (some ⟨u, 0, none⟩), .int .i64 i] w fun e w' => e = .returned (.int .i64 (tokH i (dv D i + 1))) ∧ Below w.heap.size w w' := by
  have h32 := h.n32
  have c3 := h.c3 (i := i) (by omega)
  have H := Lib.hid (hasU h i true (decide_eq_true (by omega)))
  obtain ⟨d, hd1⟩ : ∃ d, d = dv D i := ⟨_, rfl⟩
  rw [← hd1] at c3 hd ⊢
  obtain ⟨hd2, hd3⟩ := hd
  have hi2 : (i : Int) < 32 := by omega
  have hi3 : i < 32 := by omega
  clear h hd1
  go_enter Tryz.func118, Tryz.ntmps118
  go_wp2_with fail
  refine H.out.mono ?_
  rintro en w' ⟨rfl, rfl⟩
  go_wp2_with fail
  refine (pack_any w _ _ (by omega) (by omega) (by omega) (by omega)).mono ?_
  rintro en w1 ⟨rfl, b1⟩
  have B1 := Lib.hid b1
  clear b1 c3
  go_wp2
  go_ret
  exact ⟨rfl, B1.out⟩
end
structure IsK (w W : World) (u a g : Nat) (f : Int) (n : Nat) (D : List Int) (s s' : Ar) : Prop where
  ar : ArIs W a g s'
  tu : TuIs W u a f n D
  tn : Turns [a, g] w W
theorem IsK.below {w W W' : World} {u a g : Nat} {f : Int} {n : Nat} {D : List Int} {s s' : Ar} (h : IsK w W u a g f n D s s') (k : Below W.heap.size W W') : IsK w W' u a g f n D s s' :=
  ⟨h.ar.turns (S := []) (Turns.of_below k) (by simp) (by simp), h.tu.below k, h.tn.trans (Turns.of_below k)⟩
set_option maxRecDepth 100000 in
set_option maxHeartbeats 4000000 in
theorem isU {w : World} {u a g : Nat} {f : Int} {n : Nat} {D : List Int} {s : Ar} (h : ArIs w a g s) (k : TuIs w u a f n D) (hua : u ≠ a) (hug : u ≠ g) (x : Int) (h0 : 0 ≤ x) (h1 : x < 9223372036854775808) (ho : s.ops + 1 ≤ 1000000000000) :
    Calls Tryz.prog 119 #[.pointer (some ⟨u, 0, none⟩), .int .i64 x] w fun e w' => e = .returned (.bool (isB s.W f n x)) ∧ ArIs w' a g (isA s f n x) ∧ Turns [a, g] w w' := by
  have HI := Lib.hid (fun W => fidx_any W x h0 h1)
  have HM := Lib.hid (fun W => marked_qt W x h0 h1)
  have HNu := Lib.hid (fun W => fnum_any W x h0 h1)
  have K0 := Lib.hid (show IsK w w u a g f n D s s from ⟨h, k, Turns.refl _ _⟩)
  have HC := Lib.hid (fun W (h : TuIs W u a f n D) => And.intro h.c0 h.c1)
  have hun : u ∉ [a, g] := by simp [hua, hug]
  obtain ⟨f0, f1⟩ := k.f0
  have n32 := k.n32
  obtain ⟨j, hj⟩ : ∃ j, j = x % 65536 := ⟨_, rfl⟩
  have hj0 : 0 ≤ j := by omega
  have hj1 : j < 65536 := by omega
  obtain ⟨m, hm⟩ : ∃ m, m = x / 65536 := ⟨_, rfl⟩
  rw [← hj] at HI
  rw [← hm] at HNu
  by_cases hok : 1 ≤ j ∧ j ≤ n
  · have e1 : isOk n x = true := decide_eq_true ⟨h0, by omega, by omega⟩
    obtain ⟨v, hv⟩ : ∃ v, v = ldW s.W (f + (j - 1)) := ⟨_, rfl⟩
    have HE : Hid (isA s f n x = loadA s (f + (j - 1)) ∧ isB s.W f n x = decide (m ≤ v)) := Lib.hid ⟨by unfold isA; rw [e1, ← hj]; rfl, by unfold isB; rw [e1, ← hj, ← hm, ← hv]; rfl⟩
    have HL := Lib.hid (fun W (h : ArIs W a g s) => load_any h (f + (j - 1)) ho)
    rw [← hv] at HL
    have HH := Lib.hid (fun W (h : TuIs W u a f n D) => hasU h (j - 1) true (decide_eq_true (by omega)))
    obtain ⟨hok1, hok2⟩ := hok
    have HU := Lib.hid hun
    clear h k h0 h1 hj hm e1 hv hun hua hug
    go_enter Tryz.func119, Tryz.ntmps119
    go_wp2_with fail
    refine (HI.out w).mono ?_
    rintro en w1 ⟨rfl, b1⟩
    have K1 := Lib.hid ((K0.out.below b1).below ((Below.refl _ w1).drew))
    clear b1
    have x1 : IntKind.i64.wrap (f + (j - 1)) = f + (j - 1) := IntWalk.i64_in _ (by omega)
    go_wp2_with fail
    go_region_held3 (fun W => W.cell? ⟨u, 0, none⟩ = some (.pointer (some ⟨a, 0, none⟩)) ∧ W.cell? ⟨u, 1, none⟩ = some (.int .i64 f))
      (first | with_reducible exact HC.out _ K1.out.tu | with_reducible exact HC.out _ K2.out.tu | with_reducible exact HC.out _ K3.out.tu | with_reducible exact HC.out _ K4.out.tu)
      (first
        | (go_at_call 148; go_loud (refine (HM.out _).mono ?_); rintro en w2 ⟨rfl, q2⟩; have K2 := Lib.hid (K1.out.below (Qt.below q2 _)); clear q2)
        | (go_at_call 145; go_loud (refine (HH.out _ K2.out.tu).mono ?_); rintro en w2' ⟨rfl, rfl⟩)
        | (go_at_call 94; go_loud (refine (HL.out _ K2.out.ar).mono ?_); rintro en w3 ⟨rfl, a3, t3⟩; have K3 : Hid (IsK w w3 u a g f n D s (loadA s (f + (j - 1)))) := Lib.hid ⟨a3, K2.out.tu.turns t3 HU.out, K2.out.tn.trans t3⟩; clear a3 t3)
        | (go_at_call 149; go_loud (refine (HNu.out _).mono ?_); rintro en w4 ⟨rfl, b4⟩; have K4 := Lib.hid (K3.out.below b4); clear b4))
    all_goals
      go_wp2
      go_ret
      refine ⟨ret_bool ?_, ?_, K4.out.tn⟩
      · rw [HE.out.2]
      · rw [HE.out.1]; exact K4.out.ar
  · have e1 : isOk n x = false := decide_eq_false (by omega)
    have HE : Hid (isA s f n x = s ∧ isB s.W f n x = false) := Lib.hid ⟨by unfold isA; rw [e1]; rfl, by unfold isB; rw [e1]; rfl⟩
    have HH := Lib.hid (fun W (h : TuIs W u a f n D) => hasU h (j - 1) false (decide_eq_false (by omega)))
    clear h k h0 h1 hj hm e1 hun hua hug
    go_enter Tryz.func119, Tryz.ntmps119
    go_wp2_with fail
    refine (HI.out w).mono ?_
    rintro en w1 ⟨rfl, b1⟩
    have K1 := Lib.hid (K0.out.below b1)
    clear b1 hok
    go_wp2_with fail
    go_quiet ((first
        | (go_at_call 148; exact quiet_qt (HM.out _))
        | (go_at_call 145; exact quiet_left (HH.out _ (K1.out.below (Qt.below ⟨_, rfl⟩ _)).tu))))
    go_wp2
    go_ret
    refine ⟨ret_bool ?_, ?_, K1.out.tn.trans (Turns.of_qt ⟨_, rfl⟩)⟩
    · rw [HE.out.2]
    · rw [HE.out.1]; exact (K1.out.below (Qt.below ⟨_, rfl⟩ _)).ar
end Go.Proofs.YtkdaiomjbkpedaaGreat
end
section
/- Layer 28: turns: Done, New. -/
namespace Go.Proofs.YtkdaiomjbkpedaaGreat
open Go.RowKit

theorem TuIs.put {w : World} {u a : Nat} {f : Int} {n : Nat} {D : List Int} (h : TuIs w u a f n D) {i : Nat} (v : Int) : TuIs (w.setCell ⟨u, 3 + i, none⟩ (.int .i64 v)) u a f n (D.set i v) := by
  refine ⟨?_, by simp [h.len], h.n32, h.f0⟩
  have h1 := h.blk.set_ (3 + i) (.int .i64 v)
  have e : (tuC a f n D).toArray.setIfInBounds (3 + i) (.int .i64 v) = (tuC a f n (D.set i v)).toArray := by
    rw [List.setIfInBounds_toArray]
    congr 1
    unfold tuC
    rw [List.set_append_right _ _ (by simp)]
    simp [List.map_set]
  rw [e] at h1
  exact h1
theorem TuIs.drew {w : World} {u a : Nat} {f : Int} {n : Nat} {D : List Int} (h : TuIs w u a f n D) : TuIs w.drew u a f n D := h.below ((Below.refl _ _).drew)
theorem ArIs.drew {w : World} {a g : Nat} {s : Ar} (h : ArIs w a g s) : ArIs w.drew a g s := h.turns (S := []) ((Turns.refl _ _).drew) (by simp) (by simp)
set_option maxRecDepth 100000 in
set_option maxHeartbeats 1000000 in
theorem doneU {w : World} {u a g : Nat} {f : Int} {n : Nat} {D : List Int} {s : Ar} (h : ArIs w a g s) (k : TuIs w u a f n D) (hua : u ≠ a) (hug : u ≠ g) (i : Nat) (hi : i < n) (hd : 0 ≤ dv D i ∧ dv D i < 1000000000) (ho : s.ops + 1 ≤ 1000000000000) :
    Calls Tryz.prog 120 #[.pointer (some ⟨u, 0, none⟩), .int .i64 i] w fun e w' => e = .returned (.tuple #[]) ∧ ArIs w' a g (addA s (f + i) 1) ∧ TuIs w' u a f n (D.set i (dv D i + 1)) ∧ Turns [a, g, u] w w' := by
  have h32 := k.n32
  obtain ⟨f0, f1⟩ := k.f0
  have hi3 : i < 32 := by omega
  have hi2 : (i : Int) < 32 := by omega
  have c3 := k.c3 (i := i) hi3
  have z3 := k.blk.free (3 + i)
  have hul := k.blk.lt
  have HH := Lib.hid (hasU k i true (decide_eq_true (by omega)))
  obtain ⟨d, hd1⟩ : ∃ d, d = dv D i := ⟨_, rfl⟩
  rw [← hd1] at c3 hd ⊢
  obtain ⟨hd2, hd3⟩ := hd
  have ha1 : ArIs (w.setCell ⟨u, 3 + i, none⟩ (.int .i64 (d + 1))).drew a g s := (h.turns (S := [u]) ((Turns.refl _ _).setCell (.inl (by simp)) _) (by simpa using Ne.symm hua) (by simpa using Ne.symm hug)).drew
  have hk1 : TuIs (w.setCell ⟨u, 3 + i, none⟩ (.int .i64 (d + 1))).drew u a f n (D.set i (d + 1)) := (k.put (i := i) (d + 1)).drew
  have ht1 : Turns [a, g, u] w (w.setCell ⟨u, 3 + i, none⟩ (.int .i64 (d + 1))).drew := ((Turns.refl _ _).setCell (.inl (by simp)) _).drew
  have HK := Lib.hid (And.intro ha1 (And.intro hk1 ht1))
  have HU := Lib.hid (show u ∉ [a, g] by simp [hua, hug])
  clear h k hd1 ha1 hk1 ht1 hua hug
  go_enter Tryz.func120, Tryz.ntmps120
  go_wp2_with fail
  refine HH.out.mono ?_
  rintro en w' ⟨rfl, rfl⟩
  go_wp2_with fail
  refine wp_region_still_tail 10 (by kernel_rfl) (by kernel_rfl) ?_
  simp only [List.take_succ_cons, List.take_zero, List.drop_succ_cons, List.drop_zero]
  change wpStill _ _ (World.drew _) _ _ _
  repeat still_step
  refine wpStill_nil ?_
  change wpList _ _ _ _ _ (World.drew w)
  go_wp2_with fail
  generalize hW : (w.setCell ⟨u, 3 + i, none⟩ (.int .i64 (d + 1))).drew = W at HK ⊢
  have s0 := HK.out.2.1.c0
  have s1 := HK.out.2.1.c1
  have x1 : IntKind.i64.wrap (f + i) = f + i := IntWalk.i64_in _ (by omega)
  have HL0 := (fun V (h : ArIs V a g s) => add_any h (f + i) 1 ho)
  obtain ⟨r, hr⟩ : ∃ r : Int, r = (if inR s.W (f + i) = true then IntKind.i64.wrap (ldW s.W (f + i) + 1) else 0) := ⟨_, rfl⟩
  rw [← hr] at HL0
  have HL := Lib.hid HL0
  clear HL0 hr
  clear hW c3
  refine wp_region_still_tail 10 (by kernel_rfl) (by kernel_rfl) ?_
  simp only [List.take_succ_cons, List.take_zero, List.drop_succ_cons, List.drop_zero]
  change wpStill _ _ (World.drew _) _ _ _
  repeat still_step
  refine wpStill_nil ?_
  change wpList _ _ _ _ _ (World.drew W)
  go_wp2_with fail
  refine (HL.out _ HK.out.1.drew).mono ?_
  rintro en w2 ⟨rfl, h2, t2⟩
  have H2 := Lib.hid (And.intro h2 (And.intro (HK.out.2.1.drew.turns t2 HU.out) ((HK.out.2.2.drew).trans (t2.mono (by simp)))))
  clear h2 t2
  go_wp2
  go_end0
  exact ⟨rfl, H2.out⟩
def newTuOk (s : Ar) (n : Int) : Int := if n < 1 ∨ 32 < n then 1 else if (s.room : Int) - s.W.length < n then 3 else 0
/-- new turns, where there is room -/
theorem newU {w : World} {a g : Nat} {s : Ar} (h : ArIs w a g s) (n : Nat) (h1 : 1 ≤ n) (h2 : n ≤ 32) (hr : (n : Int) ≤ (s.room : Int) - s.W.length) :
    Calls Tryz.prog 73 #[.pointer (some ⟨a, 0, none⟩), .int .i64 n] w fun e w' => ∃ u, e = .returned (.tuple #[.pointer (some ⟨u, 0, none⟩), .int .i64 0]) ∧ w.heap.size ≤ u ∧ ArIs w' a g { s with W := s.W ++ List.replicate n 0 } ∧ TuIs w' u a (s.W.length + 1) n (List.replicate 32 0) ∧ Turns [a] w w' := by
  have hle := h.le
  have hro := h.room
  have HT : Hid (takeA s n = ({ s with W := s.W ++ List.replicate n 0 }, (s.W.length : Int) + 1, (0 : Int))) := Lib.hid (by unfold takeA; rw [if_neg (by omega), if_neg (by omega)]; simp)
  have H := Lib.hid h
  have e1 : ¬ (n : Int) < 1 := by omega
  have e2 : ¬ 32 < (n : Int) := by omega
  clear h
  go_enter Tryz.func73, Tryz.ntmps73
  go_wp2_with fail
  refine (take_any H.out n).mono ?_
  rintro en w1 ⟨rfl, k1, t1⟩
  rw [HT.out] at k1 ⊢
  have hsz := t1.size
  have H1 := Lib.hid (And.intro k1 (And.intro t1 hsz))
  have hsl : (s.W.length : Int) ≤ 4096 := by omega
  clear k1 t1 hsz
  go_wp2
  go_ret2
  refine ⟨w1.heap.size, rfl, H1.out.2.2, H1.out.1.turns (S := []) ((Turns.refl _ _).alloc _) (by simp) (by simp), ⟨?_, by simp, h2, by omega, by omega⟩, (H1.out.2.1).alloc _⟩
  have := Blk.new w1 144 (tuC a (s.W.length + 1) n (List.replicate 32 0)).toArray
  exact this
end Go.Proofs.YtkdaiomjbkpedaaGreat
end
section
/- Layer 29 (hclh): how the lock lies in memory; Threads, Spot, Ask, Leave. -/
namespace Go.Proofs.YtkdaiomjbkpedaaGreat
open Go.RowKit

def nodeN (P T : List Int) (i : Nat) : Nat := (idxI (leavesL P) (T.getD i 0)).toNat
structure HcIs (w : World) (l a g q b u lo hi : Nat) (dl : Int) (P T : List Int) (h : Hc) : Prop where
  ar : ArIs w a g h.ar
  lk : Blk w l 73 #[.pointer (some ⟨a, 0, none⟩), .pointer (some ⟨b, 0, none⟩), .int .i64 1, .pointer (some ⟨u, 0, none⟩), .int .i64 dl, .slice (some ⟨q, 0, none⟩) T.length T.length]
  sp : SpIs w q h.S
  tu : TuIs w u a (2 + (leavesL P).length) T.length h.D
  tab : TabL lo hi w b P T
  sl : h.S.length = T.length
  hs : hi ≤ w.heap.size
  nd : [l, a, g, q, u].Nodup
  out : ∀ x ∈ [l, a, g, q, u], x < lo ∨ hi ≤ x
section
variable {w w' : World} {l a g q b u lo hi : Nat} {dl : Int} {P T : List Int} {h : Hc}
theorem HcIs.n32 (k : HcIs w l a g q b u lo hi dl P T h) : 1 ≤ T.length ∧ T.length ≤ 32 ∧ (leavesL P).length ≤ 32 := by
  have := many_lt (chk_ok k.tab.ok).1
  have hll := leavesTo_len P P.length
  exact ⟨this.2.2.1, this.2.2.2, by show (leavesTo P P.length).length ≤ 32; omega⟩
theorem HcIs.next (k : HcIs w l a g q b u lo hi dl P T h) {ar' : Ar} {D' : List Int} {S' : List Sp} (t : Turns [a, g, q, u] w w') (h1 : ArIs w' a g ar') (h2 : SpIs w' q S') (h3 : TuIs w' u a (2 + (leavesL P).length) T.length D') (h4 : S'.length = T.length) : HcIs w' l a g q b u lo hi dl P T ⟨ar', D', S'⟩ := by
  have hnd := k.nd
  refine ⟨h1, t.blk k.lk ?_, h2, h3, k.tab.keep (fun i hi1 hi2 => t.block i (by have := k.hs; omega) fun hm => ?_) (Nat.le_trans k.hs t.size), h4, Nat.le_trans k.hs t.size, k.nd, k.out⟩
  · exact (List.nodup_cons.1 hnd).1
  · have := k.out i (List.mem_cons_of_mem _ hm); omega
theorem HcIs.below (k : HcIs w l a g q b u lo hi dl P T h) (t : Below w.heap.size w w') : HcIs w' l a g q b u lo hi dl P T h := by
  have t0 := Turns.of_below (S := []) t
  exact k.next (t0.mono (by simp)) (k.ar.turns t0 (by simp) (by simp)) (k.sp.turns t0 (by simp)) (k.tu.turns t0 (by simp)) k.sl
/-- the spots alone turn -/
theorem HcIs.spot (k : HcIs w l a g q b u lo hi dl P T h) {S' : List Sp} (hs : SpIs w' q S') (hl : S'.length = T.length) (t : Turns [q] w w') : HcIs w' l a g q b u lo hi dl P T ⟨h.ar, h.D, S'⟩ := by
  have hnd := k.nd
  simp at hnd
  exact k.next (t.mono (by simp)) (k.ar.turns t (by simp; omega) (by simp; omega)) hs (k.tu.turns t (by simp; omega)) hl
theorem HcIs.c0 (k : HcIs w l a g q b u lo hi dl P T h) : w.cell? ⟨l, 0, none⟩ = some (.pointer (some ⟨a, 0, none⟩)) := k.lk.cell 0
theorem HcIs.c1 (k : HcIs w l a g q b u lo hi dl P T h) : w.cell? ⟨l, 1, none⟩ = some (.pointer (some ⟨b, 0, none⟩)) := k.lk.cell 1
theorem HcIs.c2 (k : HcIs w l a g q b u lo hi dl P T h) : w.cell? ⟨l, 2, none⟩ = some (.int .i64 1) := k.lk.cell 2
theorem HcIs.c3 (k : HcIs w l a g q b u lo hi dl P T h) : w.cell? ⟨l, 3, none⟩ = some (.pointer (some ⟨u, 0, none⟩)) := k.lk.cell 3
theorem HcIs.c4 (k : HcIs w l a g q b u lo hi dl P T h) : w.cell? ⟨l, 4, none⟩ = some (.int .i64 dl) := k.lk.cell 4
theorem HcIs.c5 (k : HcIs w l a g q b u lo hi dl P T h) : w.cell? ⟨l, 5, none⟩ = some (.slice (some ⟨q, 0, none⟩) T.length T.length) := k.lk.cell 5
theorem HcIs.spn (k : HcIs w l a g q b u lo hi dl P T h) {i : Nat} (hi : i < T.length) : h.S[i]? = some (sv h.S i) := by
  unfold sv
  rw [List.getD_eq_getElem?_getD, List.getElem?_eq_getElem (by rw [k.sl]; exact hi)]; rfl
theorem threadsH (k : HcIs w l a g q b u lo hi dl P T h) : Calls Tryz.prog 42 #[.pointer (some ⟨l, 0, none⟩)] w fun e w' => e = .returned (.int .i64 T.length) ∧ w = w' := by
  have c5 := k.c5
  clear k
  go_enter Tryz.func42, Tryz.ntmps42
  go_wp2
  go_ret
  exact ⟨rfl, rfl⟩
set_option maxHeartbeats 400000 in
theorem spotH (k : HcIs w l a g q b u lo hi dl P T h) (i : Int) :
    Calls Tryz.prog 14 #[.pointer (some ⟨l, 0, none⟩), .int .i64 i] w fun e w' => e = .returned (spotV (getS h.S i)) ∧ Below w.heap.size w w' := by
  obtain ⟨_, HN, _⟩ := k.n32
  have hsl := k.sl
  by_cases hok : okI h.S i
  · have hp := getS_in hok
    obtain ⟨p, hpp⟩ : ∃ p, p = getS h.S i := ⟨_, rfl⟩
    rw [← hpp] at hp ⊢
    have c2 := k.c5
    have a0 := k.sp.cell hp 0 _ rfl
    have a1 := k.sp.cell hp 1 _ rfl
    have a2 := k.sp.cell hp 2 _ rfl
    have a3 := k.sp.cell hp 3 _ rfl
    simp only [Nat.add_zero] at a0
    obtain ⟨h0, h1⟩ := hok
    rw [hsl] at h1
    obtain ⟨n, rfl⟩ := Int.eq_ofNat_of_zero_le h0
    simp only [Int.toNat_natCast] at a0 a1 a2 a3
    have hs1 := k.lk.lt
    have hs2 := k.sp.lt
    have t2 : ¬ (n : Int) < 0 := by omega
    have t3 : ¬ ((T.length : Nat) : Int) ≤ (n : Int) := by omega
    have t4 : n < T.length := by omega
    have H : Hid (HcIs (w.alloc (.cells #[.int .i64 0, .int .i64 0, .int .i64 0, .int .i64 0] 35)) l a g q b u lo hi dl P T h) := Lib.hid (k.below ((Below.refl _ _).alloc (Nat.le_refl _) _))
    clear k hp hpp h0 h1 hsl
    go_enter Tryz.func14, Tryz.ntmps14
    go_wp2_with (go_at_call 42; refine (threadsH H.out).mono ?_; rintro e w' ⟨rfl, rfl⟩)
    exact bodyPost_ret (results_cell_row (by rfl) _ _ w.heap.size 35 _ (0, 0) _ (by rfl) (heap_alloc_new w _) Tryz.underlying35 rfl (by kernel_rfl)) rfl ⟨rfl, (Below.refl _ _).alloc (Nat.le_refl _) _⟩
  · have H : Hid (HcIs (w.alloc (.cells #[.int .i64 0, .int .i64 0, .int .i64 0, .int .i64 0] 35)) l a g q b u lo hi dl P T h) := Lib.hid (k.below ((Below.refl _ _).alloc (Nat.le_refl _) _))
    rw [getS_out hok]
    unfold okI at hok
    rw [hsl] at hok
    clear k hsl
    by_cases h0 : i < 0
    · go_enter Tryz.func14, Tryz.ntmps14
      go_wp2
      exact bodyPost_ret (results_cell_row (by rfl) _ _ w.heap.size 35 _ (0, 0) _ (by rfl) (heap_alloc_new w _) Tryz.underlying35 rfl (by kernel_rfl)) rfl ⟨rfl, (Below.refl _ _).alloc (Nat.le_refl _) _⟩
    · have t3 : ((T.length : Nat) : Int) ≤ i := by omega
      clear hok
      go_enter Tryz.func14, Tryz.ntmps14
      go_wp2_with (go_at_call 42; refine (threadsH H.out).mono ?_; rintro e w' ⟨rfl, rfl⟩)
      exact bodyPost_ret (results_cell_row (by rfl) _ _ w.heap.size 35 _ (0, 0) _ (by rfl) (heap_alloc_new w _) Tryz.underlying35 rfl (by kernel_rfl)) rfl ⟨rfl, (Below.refl _ _).alloc (Nat.le_refl _) _⟩
def HOp (w : World) (l a g q b u lo hi : Nat) (dl : Int) (P T : List Int) (x : Hc × Bool) (e : Ending) (w' : World) : Prop := e = .returned (.bool x.2) ∧ HcIs w' l a g q b u lo hi dl P T x.1 ∧ Turns [a, g, q, u] w w'
set_option maxHeartbeats 800000 in
theorem beginHc (k : HcIs w l a g q b u lo hi dl P T h) (i from_ to_ : Int) :
    Calls Tryz.prog 75 #[.pointer (some ⟨l, 0, none⟩), .int .i64 i, .int .i64 from_, .int .i64 to_] w (HOp w l a g q b u lo hi dl P T (beginH h i from_ to_)) := by
  have H := Lib.hid k
  obtain ⟨_, hlen, _⟩ := k.n32
  have hsl := k.sl
  by_cases hi : okI h.S i
  · have hp := getS_in hi
    obtain ⟨p, hpp⟩ : ∃ p, p = getS h.S i := ⟨_, rfl⟩
    rw [← hpp] at hp
    have c2 := k.c5
    have a0 := k.sp.cell hp 0 _ rfl
    have f0 := k.sp.free (i.toNat * 4)
    simp only [Nat.add_zero] at a0
    obtain ⟨h0, h1⟩ := id hi
    rw [hsl] at h1
    obtain ⟨n, rfl⟩ := Int.eq_ofNat_of_zero_le h0
    simp only [Int.toNat_natCast] at a0 f0 hp
    have t2 : ¬ (n : Int) < 0 := by omega
    have t3 : ¬ ((T.length : Nat) : Int) ≤ (n : Int) := by omega
    have t4 : n < T.length := by omega
    have HP := Lib.hid (And.intro hi (And.intro hpp hp))
    clear k hp hpp h0 h1 hi hsl
    cases hc : (p.pc != from_)
    · have hb : Hid (beginH h n from_ to_ = (⟨h.ar, h.D, h.S.set n { p with pc := to_ }⟩, true)) := Lib.hid (by
        unfold beginH
        have e : p.pc = from_ := by simpa using hc
        rw [← HP.out.2.1, if_pos ⟨HP.out.1, e⟩]; simp)
      go_enter Tryz.func75, Tryz.ntmps75
      go_wp2_with (go_at_call 42; refine (threadsH H.out).mono ?_; rintro e w' ⟨rfl, rfl⟩)
      go_ret
      rw [hb.out]
      have ht : Turns [q] w (w.setCell ⟨q, n * 4, none⟩ (.int .i64 to_)) := (Turns.refl _ _).setCell (.inl (by simp)) _
      exact ⟨rfl, H.out.spot (H.out.sp.put HP.out.2.2 (j := 0) (by decide) rfl) (by simp [H.out.sl]) ht, ht.mono (by simp)⟩
    · have hb : Hid (beginH h n from_ to_ = (h, false)) := Lib.hid (by
        unfold beginH
        have e : ¬ p.pc = from_ := by simpa using hc
        rw [← HP.out.2.1, if_neg (fun h => e h.2)])
      go_enter Tryz.func75, Tryz.ntmps75
      go_wp2_with (go_at_call 42; refine (threadsH H.out).mono ?_; rintro e w' ⟨rfl, rfl⟩)
      go_ret
      rw [hb.out]
      exact ⟨rfl, H.out, Turns.refl _ _⟩
  · have hb : Hid (beginH h i from_ to_ = (h, false)) := Lib.hid (by
      unfold beginH
      rw [if_neg (fun h => hi h.1)])
    unfold okI at hi
    rw [hsl] at hi
    clear k hsl
    by_cases h0 : i < 0
    · go_enter Tryz.func75, Tryz.ntmps75
      go_wp2
      go_ret
      rw [hb.out]
      exact ⟨rfl, H.out, Turns.refl _ _⟩
    · have t3 : ((T.length : Nat) : Int) ≤ i := by omega
      clear hi
      go_enter Tryz.func75, Tryz.ntmps75
      go_wp2_with (go_at_call 42; refine (threadsH H.out).mono ?_; rintro e w' ⟨rfl, rfl⟩)
      go_ret
      rw [hb.out]
      exact ⟨rfl, H.out, Turns.refl _ _⟩
theorem askHc (k : HcIs w l a g q b u lo hi dl P T h) (i : Int) :
    Calls Tryz.prog 39 #[.pointer (some ⟨l, 0, none⟩), .int .i64 i] w (HOp w l a g q b u lo hi dl P T (beginH h i 0 1)) := by
  obtain ⟨x, hx⟩ : ∃ x, x = beginH h i 0 1 := ⟨_, rfl⟩
  have H := Lib.hid (beginHc k i 0 1)
  rw [← hx] at H ⊢
  obtain ⟨x1, x2⟩ := x
  clear k hx
  go_enter Tryz.func39, Tryz.ntmps39
  go_wp2_with fail
  refine H.out.mono ?_
  rintro en w1 ⟨rfl, h1, t1⟩
  have H1 := Lib.hid (And.intro h1 t1)
  clear h1 t1
  go_wp2
  go_ret
  exact ⟨rfl, H1.out⟩
theorem leaveHc (k : HcIs w l a g q b u lo hi dl P T h) (i : Int) :
    Calls Tryz.prog 41 #[.pointer (some ⟨l, 0, none⟩), .int .i64 i] w (HOp w l a g q b u lo hi dl P T (beginH h i 10 11)) := by
  obtain ⟨x, hx⟩ : ∃ x, x = beginH h i 10 11 := ⟨_, rfl⟩
  have H := Lib.hid (beginHc k i 10 11)
  rw [← hx] at H ⊢
  obtain ⟨x1, x2⟩ := x
  clear k hx
  go_enter Tryz.func41, Tryz.ntmps41
  go_wp2_with fail
  refine H.out.mono ?_
  rintro en w1 ⟨rfl, h1, t1⟩
  have H1 := Lib.hid (And.intro h1 t1)
  clear h1 t1
  go_wp2
  go_ret
  exact ⟨rfl, H1.out⟩
theorem nodeN_at (k : HcIs w l a g q b u lo hi dl P T h) {i : Nat} (hi : i < T.length) : (nodesTo P T T.length)[i]? = some ((nodeN P T i : Nat) : Int) ∧ nodeN P T i < (leavesL P).length := by
  have hm : T.getD i 0 ∈ leavesL P := thr_mem (chk_ok k.tab.ok).2.2.2 (i := i) (by rw [List.getD_eq_getElem?_getD, List.getElem?_eq_getElem hi]; rfl)
  have h1 := idx_nonneg (leavesL P) (T.getD i 0)
  have h0 := h1.1.2 hm
  have h2 := h1.2.1
  unfold nodeN
  refine ⟨?_, by omega⟩
  unfold nodesTo
  rw [List.getElem?_map, List.getElem?_take, if_pos hi, List.getElem?_eq_getElem hi]
  simp only [Option.map_some, Option.some.injEq]
  rw [show T.getD i 0 = T[i] by rw [List.getD_eq_getElem?_getD, List.getElem?_eq_getElem hi]; rfl] at h0 ⊢
  omega
/-- the word of the tail of a thread's node -/
theorem localH (k : HcIs w l a g q b u lo hi dl P T h) (i : Nat) (hi : i < T.length) :
    Calls Tryz.prog 117 #[.pointer (some ⟨l, 0, none⟩), .int .i64 i] w fun e w' => e = .returned (.int .i64 (2 + (nodeN P T i : Nat))) ∧ Qt w w' := by
  obtain ⟨hx, hlt⟩ := nodeN_at k hi
  obtain ⟨_, _, h32⟩ := k.n32
  obtain ⟨v, hv⟩ : ∃ v, v = nodeN P T i := ⟨_, rfl⟩
  rw [← hv] at hx hlt ⊢
  have HN := Lib.hid (fun W (h : TabF W b P T) => nodeF W b P T i hi h v hx)
  have HT := Lib.hid k.tab
  have HS := Lib.hid k.hs
  have c1 := k.c1
  have c2 := k.c2
  have x1 : IntKind.i64.wrap (2 + (v : Int)) = 2 + v := IntWalk.i64_in _ (by omega)
  clear k hv hx
  go_enter Tryz.func117, Tryz.ntmps117
  go_wp2
  go_quiet ((go_at_call 86; exact quiet_left (HN.out _ (HT.out.f.below (Qt.below ⟨_, rfl⟩ _)))))
  go_wp2
  go_ret
  exact ⟨rfl, ⟨_, rfl⟩⟩
end
end Go.Proofs.YtkdaiomjbkpedaaGreat
end
