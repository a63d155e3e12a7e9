/- Joined: Pa11, PaD, Hw12, Hw13, Hw14, Hw15. -/
import Derived.Test.YtkdaiomjbkpedaaGreatMgHmcsTenure18
section
/- path.Table: Node, Slot, Mates, Up of any number. -/
namespace Go.Proofs.YtkdaiomjbkpedaaGreat
open Go.RowKit

/-- a method that leaves a table a table -/
def Tells (w : World) (b : Nat) (P T : List Int) (v : Value) (e : Ending) (w' : World) : Prop := e = .returned v ∧ Tab w' b P T ∧ Turns [b] w w'
theorem nodeT (w : World) (b : Nat) (P T : List Int) (i : Int) (h : Tab w b P T) : Calls Tryz.prog 86 #[.pointer (some ⟨b, 0, none⟩), .int .i64 i] w (Tells w b P T (.int .i64 (nodeI P T i))) := by
  cases hh : hasB T i
  · refine (node_any_no w b P T i hh h).mono ?_
    rintro e w' ⟨rfl, rfl⟩
    exact ⟨by unfold nodeI; rw [hh]; rfl, h, Turns.refl _ _⟩
  · obtain ⟨k, rfl, hk⟩ := has_nat hh
    have hx : (nodesTo P T T.length)[k]? = some (idxI (leavesL P) (T.getD k 0)) := by
      obtain ⟨x, hx⟩ := getElem?_lt hk
      unfold nodesTo
      rw [List.take_length, List.getElem?_map, hx, getD_of hx]; rfl
    refine (node_any w b P T k hk h _ hx).mono ?_
    rintro e w' ⟨rfl, h1, h2⟩
    exact ⟨by unfold nodeI; rw [hh]; simp, h1.tab, h2⟩
theorem slotT (w : World) (b : Nat) (P T : List Int) (i : Int) (h : Tab w b P T) : Calls Tryz.prog 107 #[.pointer (some ⟨b, 0, none⟩), .int .i64 i] w (Tells w b P T (.int .i64 (slotI T i))) := by
  cases hh : hasB T i
  · refine (slot_any_no w b P T i hh h).mono ?_
    rintro e w' ⟨rfl, rfl⟩
    exact ⟨by unfold slotI; rw [hh]; rfl, h, Turns.refl _ _⟩
  · obtain ⟨k, rfl, hk⟩ := has_nat hh
    have hx : (slotsTo T T.length)[k]? = some (slotOf T k) := by unfold slotsTo; simp [hk]
    refine (slot_any w b P T k hk h _ hx).mono ?_
    rintro e w' ⟨rfl, h1, h2⟩
    exact ⟨by unfold slotI; rw [hh]; simp, h1.tab, h2⟩
set_option maxHeartbeats 1000000 in
theorem matesT (w : World) (b : Nat) (P T : List Int) (n : Int) (h : Tab w b P T) : Calls Tryz.prog 104 #[.pointer (some ⟨b, 0, none⟩), .int .i64 n] w (Tells w b P T (.int .i64 (matesI P T n))) := by
  have HN := Lib.hid (nodes_any w b P T h)
  have H := Lib.hid h
  have hll : (leavesL P).length ≤ 32 := by have h1 := (many_lt (chk_ok h.1).1).2.1; have := leavesTo_len P P.length; show (leavesTo P P.length).length ≤ _; omega
  obtain ⟨L, hL⟩ : ∃ L, L = (leavesL P).length := ⟨_, rfl⟩
  rw [← hL] at HN hll
  have HL := Lib.hid hL
  clear h hL
  by_cases h0 : n < 0
  · have HM : Hid (matesI P T n = 0) := Lib.hid (by unfold matesI; rw [if_neg (by omega)])
    go_enter Tryz.func104, Tryz.ntmps104
    go_wp2
    go_ret
    exact ⟨ret_int HM.out.symm, H.out, Turns.refl _ _⟩
  · obtain ⟨k, rfl⟩ := Int.eq_ofNat_of_zero_le (show 0 ≤ n by omega)
    by_cases hk : k < L
    · have HM : Hid (matesI P T k = ((T.count ((leavesL P).getD k 0) : Nat) : Int)) := Lib.hid (by unfold matesI; rw [if_pos (by have := HL.out; omega)]; simp)
      have HX : Hid ((matesTo P T T.length)[k]? = some ((T.count ((leavesL P).getD k 0) : Nat) : Int)) := Lib.hid (by
        obtain ⟨x, hx⟩ := getElem?_lt (show k < (leavesL P).length by have := HL.out; omega)
        unfold matesTo
        rw [List.take_length, List.getElem?_map, hx, getD_of hx]; rfl)
      go_enter Tryz.func104, Tryz.ntmps104
      go_wp2_with fail
      refine HN.out.mono ?_
      rintro en w1 ⟨rfl, hF, hT⟩
      have HTF := Lib.hid (And.intro hF hT)
      have HF := Lib.hid (found_again w1 b P T hF)
      clear hF hT
      go_wp2_with fail
      refine HF.out.mono ?_
      rintro en w2 ⟨rfl, rfl⟩
      obtain ⟨AP, cP, AT, cT, vU, vN, vS, vM, us, h1, h2, h3, h4, h5, h6, h7, h8, h9⟩ := HTF.out.1.ex
      have hl : (matesTo P T T.length).length = L := by rw [matesTo_len]; exact HL.out.symm
      obtain ⟨AM, cM, rfl, _, _⟩ := rdl_form h6
      obtain ⟨b1, o1, hA, _, hc1⟩ := rdl_int h6 (by omega)
      subst hA
      have q1 := hc1 k _ HX.out
      have c8 := h1.cell 8
      rw [hl] at *
      simp only [tabC] at c8
      clear h1 h2 h3 h4 h5 h6 h7 h8 h9 hc1 hl
      go_wp2
      go_ret
      exact ⟨ret_int HM.out.symm, HTF.out.1.tab, HTF.out.2⟩
    · have HM : Hid (matesI P T k = 0) := Lib.hid (by unfold matesI; rw [if_neg (by have := HL.out; omega)])
      go_enter Tryz.func104, Tryz.ntmps104
      go_wp2_with fail
      refine HN.out.mono ?_
      rintro en w1 ⟨rfl, hF, hT⟩
      have HTF := Lib.hid (And.intro hF hT)
      clear hF hT
      go_wp2
      go_ret
      exact ⟨ret_int HM.out.symm, HTF.out.1.tab, HTF.out.2⟩
theorem TabF.upAt {w : World} {b : Nat} {P T : List Int} (h : TabF w b P T) {k : Nat} {x : Int} (hx : T[k]? = some x) :
    ∃ b1 o1 cu A c, w.cell? ⟨b, 5, none⟩ = some (.slice (some ⟨b1, o1, none⟩) T.length cu) ∧ w.cell? ⟨b1, o1 + k, none⟩ = some (.slice A (upL P x).length c) ∧ RdL w (.slice A (upL P x).length c) 1 encI (upL P x) ∧ T.length ≤ cu ∧ b1 < w.heap.size := by
  obtain ⟨AP, cP, AT, cT, vU, vN, vS, vM, us, h1, h2, h3, h4, h5, h6, h7, h8, h9⟩ := h.ex
  have hk := (List.getElem?_eq_some_iff.1 hx).1
  obtain ⟨v, hv⟩ := getElem?_lt (show k < us.length by omega)
  have hr := h9 k x v hx hv
  obtain ⟨A, c, rfl, _, _⟩ := rdl_form hr
  obtain ⟨AU, cU, rfl, m1, m2, m3⟩ := h7
  obtain ⟨b1, o1, rfl, hb, hc⟩ := m3 (by omega)
  have c5 := h1.cell 5
  simp only [tabC, h8] at c5
  exact ⟨b1, o1, cU, A, c, c5, by simpa using hc k _ hv 0 _ rfl, hr, by omega, hb⟩
/-- Up: a list of its own -/
def TellsUp (w : World) (b : Nat) (P T : List Int) (i : Int) (e : Ending) (w' : World) : Prop :=
  ∃ v, e = .returned v ∧ w'.ownsRow w.heap.size 3 1 v (upI P T i).length ((upI P T i).flatMap encI) ∧ Tab w' b P T ∧ Turns [b] w w'
set_option maxHeartbeats 1000000 in
theorem upT (w : World) (b : Nat) (P T : List Int) (i : Int) (h : Tab w b P T) : Calls Tryz.prog 106 #[.pointer (some ⟨b, 0, none⟩), .int .i64 i] w (TellsUp w b P T i) := by
  cases hh : hasB T i
  · have HU : Hid (upI P T i = []) := Lib.hid (by unfold upI; rw [hh]; rfl)
    have HH := Lib.hid (has_b w b P T i false hh h)
    have H := Lib.hid h
    clear h hh
    go_enter Tryz.func106, Tryz.ntmps106
    go_wp2_with fail
    refine HH.out.mono ?_
    rintro en w' ⟨rfl, rfl⟩
    go_wp2
    go_ret
    exact ⟨_, rfl, by rw [HU.out]; exact World.ownsRow_nil _ _ _ _, H.out, Turns.refl _ _⟩
  · obtain ⟨k, rfl, hk⟩ := has_nat hh
    obtain ⟨x, hx⟩ := getElem?_lt hk
    have HU : Hid (upI P T k = upL P x) := Lib.hid (by unfold upI; rw [hh]; simp [hx])
    have HH := Lib.hid (has_b w b P T k true hh h)
    have HF := Lib.hid (found_any w b P T h)
    have H32 : (upL P x).length ≤ 32 := by have h1 := (many_lt (chk_ok h.1).1).2.1; have := upL_le P x; omega
    have HX := Lib.hid hx
    clear h hh hx
    go_enter Tryz.func106, Tryz.ntmps106
    go_wp2_with fail
    refine HH.out.mono ?_
    rintro en w' ⟨rfl, rfl⟩
    go_wp2_with fail
    refine HF.out.mono ?_
    rintro en w1 ⟨rfl, hF, hT⟩
    obtain ⟨b1, o1, cu, A, c, c5, cu1, hr, hcu, hb1⟩ := hF.upAt HX.out
    have HTF := Lib.hid (And.intro hF hT)
    have HR := Lib.hid hr
    clear hF hT hr
    go_wp2_with fail
    refine (clone_any _ _ (upL P x) HR.out (by omega)).mono ?_
    rintro en w2 ⟨v2, rfl, o2, b2⟩
    have HO := Lib.hid (And.intro o2 b2)
    clear o2 b2
    go_wp2
    go_ret
    refine ⟨_, rfl, ?_, (HTF.out.1.below HO.out.2).tab, HTF.out.2.trans (Turns.of_below HO.out.2)⟩
    rw [HU.out]
    exact own_lower HO.out.1 HTF.out.2.size
end Go.Proofs.YtkdaiomjbkpedaaGreat
end
section
/- path: Mates, when the table is found by that, or was. -/
namespace Go.Proofs.YtkdaiomjbkpedaaGreat
open Go.RowKit

theorem nodesR (w : World) (b : Nat) (P T : List Int) (R : World → Prop) (hR : ∀ w1, R w1 → TabF w1 b P T) (hf : Calls Tryz.prog 116 #[.pointer (some ⟨b, 0, none⟩)] w fun e w' => e = .returned (.pointer (some ⟨b, 0, none⟩)) ∧ R w') :
    Calls Tryz.prog 72 #[.pointer (some ⟨b, 0, none⟩)] w fun e w' => e = .returned (.int .i64 ((leavesL P).length : Nat)) ∧ R w' := by
  have HF := Lib.hid hf
  have HRR := Lib.hid hR
  clear hf hR
  go_enter Tryz.func72, Tryz.ntmps72
  go_wp2_with fail
  refine HF.out.mono ?_
  rintro en w' ⟨rfl, hr⟩
  have HTF := Lib.hid hr
  obtain ⟨AP, cP, AT, cT, vU, vN, vS, vM, us, h1, h2, h3, h4, h5, h6, h7, h8, h9⟩ := (HRR.out _ hr).ex
  obtain ⟨AM, cM, rfl, _, _⟩ := rdl_form h6
  have c8 := h1.cell 8
  simp only [tabC, matesTo_len] at c8
  clear hr h1 h2 h3 h4 h5 h6 h7 h8 h9
  go_wp2
  go_ret
  exact ⟨rfl, HTF.out⟩
theorem matesR (w : World) (b : Nat) (P T : List Int) (hc : chkT P T = 0) (R : World → Prop) (hR : ∀ w1, R w1 → TabF w1 b P T) (hf : Calls Tryz.prog 116 #[.pointer (some ⟨b, 0, none⟩)] w fun e w' => e = .returned (.pointer (some ⟨b, 0, none⟩)) ∧ R w') {k : Nat} {x : Int} (hk : (leavesL P)[k]? = some x) :
    Calls Tryz.prog 104 #[.pointer (some ⟨b, 0, none⟩), .int .i64 k] w fun e w' => e = .returned (.int .i64 ((T.count x : Nat) : Int)) ∧ R w' := by
  have HN := Lib.hid (nodesR w b P T R hR hf)
  have HRR := Lib.hid hR
  have hll : (leavesL P).length ≤ 32 := by have h1 := (many_lt (chk_ok hc).1).2.1; have := leavesTo_len P P.length; show (leavesTo P P.length).length ≤ _; omega
  have hkl := (List.getElem?_eq_some_iff.1 hk).1
  have HX : Hid ((matesTo P T T.length)[k]? = some ((T.count x : Nat) : Int)) := Lib.hid (by
    unfold matesTo
    rw [List.take_length, List.getElem?_map, hk]; rfl)
  obtain ⟨L, hL⟩ : ∃ L, L = (leavesL P).length := ⟨_, rfl⟩
  rw [← hL] at HN hll hkl
  have HL := Lib.hid hL
  clear hR hf hk hL hc
  go_enter Tryz.func104, Tryz.ntmps104
  go_wp2_with fail
  refine HN.out.mono ?_
  rintro en w1 ⟨rfl, hr⟩
  have HTF := Lib.hid hr
  have HF := Lib.hid (found_again w1 b P T (HRR.out _ hr))
  clear hr
  go_wp2_with fail
  refine HF.out.mono ?_
  rintro en w2 ⟨rfl, rfl⟩
  obtain ⟨AP, cP, AT, cT, vU, vN, vS, vM, us, h1, h2, h3, h4, h5, h6, h7, h8, h9⟩ := (HRR.out _ HTF.out).ex
  have hl : (matesTo P T T.length).length = L := by rw [matesTo_len]; exact HL.out.symm
  obtain ⟨AM, cM, rfl, _, _⟩ := rdl_form h6
  obtain ⟨b1, o1, hA, _, hc1⟩ := rdl_int h6 (by omega)
  subst hA
  have q1 := hc1 k _ HX.out
  have c8 := h1.cell 8
  rw [hl] at *
  simp only [tabC] at c8
  clear h1 h2 h3 h4 h5 h6 h7 h8 h9 hc1 hl
  go_wp2
  go_ret
  exact ⟨rfl, HTF.out⟩
theorem matesFst (B : Nat → Prop) (w : World) (b : Nat) (P T : List Int) (hc : chkT P T = 0) (h : Tab0Q B w b P T) {k : Nat} {x : Int} (hk : (leavesL P)[k]? = some x) :
    Calls Tryz.prog 104 #[.pointer (some ⟨b, 0, none⟩), .int .i64 k] w fun e w' => e = .returned (.int .i64 ((T.count x : Nat) : Int)) ∧ TabQ (fun i => B i ∨ w.heap.size ≤ i) w' b P T ∧ Turns [b] w w' :=
  matesR w b P T hc (fun w' => TabQ (fun i => B i ∨ w.heap.size ≤ i) w' b P T ∧ Turns [b] w w') (fun _ h => h.1.f) (found_firstQ B w b P T hc h) hk
theorem matesF (w : World) (b : Nat) (P T : List Int) (h : TabF w b P T) {k : Nat} {x : Int} (hk : (leavesL P)[k]? = some x) :
    Calls Tryz.prog 104 #[.pointer (some ⟨b, 0, none⟩), .int .i64 k] w fun e w' => e = .returned (.int .i64 ((T.count x : Nat) : Int)) ∧ w = w' :=
  matesR w b P T h.ok (fun w' => w = w') (fun _ e => e ▸ h) (found_again w b P T h) hk
theorem slotF (w : World) (b : Nat) (P T : List Int) (i : Nat) (hi : i < T.length) (h : TabF w b P T) :
    Calls Tryz.prog 107 #[.pointer (some ⟨b, 0, none⟩), .int .i64 i] w fun e w' => e = .returned (.int .i64 (slotOf T i)) ∧ w = w' := by
  have HF := Lib.hid (found_again w b P T h)
  have HH := Lib.hid (has_b w b P T i true (decide_eq_true (by omega)) h.tab)
  have HX : Hid ((slotsTo T T.length)[i]? = some (slotOf T i)) := Lib.hid (by unfold slotsTo; simp [hi])
  have HTF := Lib.hid h
  clear h
  go_enter Tryz.func107, Tryz.ntmps107
  go_wp2_with fail
  refine HH.out.mono ?_
  rintro en w' ⟨rfl, rfl⟩
  go_wp2_with fail
  refine HF.out.mono ?_
  rintro en w' ⟨rfl, rfl⟩
  obtain ⟨AP, cP, AT, cT, vU, vN, vS, vM, us, h1, h2, h3, h4, h5, h6, h7, h8, h9⟩ := HTF.out.ex
  have hl : (slotsTo T T.length).length = T.length := slotsTo_len _ _
  obtain ⟨AM, cM, rfl, _, _⟩ := rdl_form h5
  obtain ⟨b1, o1, hA, _, hc1⟩ := rdl_int h5 (by omega)
  subst hA
  have q1 := hc1 i _ HX.out
  have c8 := h1.cell 7
  rw [hl] at *
  simp only [tabC] at c8
  clear h1 h2 h3 h4 h5 h6 h7 h8 h9 hc1 hl
  go_wp2
  go_ret
  exact ⟨rfl, rfl⟩
set_option maxHeartbeats 1000000 in
theorem upF_ (w : World) (b : Nat) (P T : List Int) (k : Nat) (x : Int) (hx : T[k]? = some x) (h : TabF w b P T) :
    Calls Tryz.prog 106 #[.pointer (some ⟨b, 0, none⟩), .int .i64 k] w fun e w' => ∃ v, e = .returned v ∧ w'.ownsRow w.heap.size 3 1 v (upL P x).length ((upL P x).flatMap encI) ∧ Below w.heap.size w w' := by
  have hk := (List.getElem?_eq_some_iff.1 hx).1
  have HH := Lib.hid (has_b w b P T k true (decide_eq_true (by omega)) h.tab)
  have HF := Lib.hid (found_again w b P T h)
  have H32 : (upL P x).length ≤ 32 := by have h1 := (many_lt (chk_ok h.ok).1).2.1; have := upL_le P x; omega
  obtain ⟨b1, o1, cu, A, c, c5, cu1, hr, hcu, hb1⟩ := h.upAt hx
  have HR := Lib.hid hr
  clear h hx hr
  go_enter Tryz.func106, Tryz.ntmps106
  go_wp2_with fail
  refine HH.out.mono ?_
  rintro en w' ⟨rfl, rfl⟩
  go_wp2_with fail
  refine HF.out.mono ?_
  rintro en w1 ⟨rfl, rfl⟩
  go_wp2_with fail
  refine (clone_any _ _ (upL P x) HR.out (by omega)).mono ?_
  rintro en w2 ⟨v2, rfl, o2, b2⟩
  have HO := Lib.hid (And.intro o2 b2)
  clear o2 b2
  go_wp2
  go_ret
  exact ⟨_, rfl, HO.out.1, HO.out.2⟩
theorem RdQ.lt {B : Nat → Prop} {w : World} {v : Value} {sz : Nat} {α : Type} {enc : α → List Value} {l : List α} (h : RdQ B w v sz enc l) : RdQ (fun i => B i ∧ i < w.heap.size) w v sz enc l := ⟨h.1, fun hl g hg => ⟨h.2 hl g hg, rd_block h.1 hl hg⟩⟩
theorem TabQ.lt {B : Nat → Prop} {w : World} {b : Nat} {P T : List Int} (h : TabQ B w b P T) : TabQ (fun i => B i ∧ i < w.heap.size) w b P T := by
  obtain ⟨AP, cP, AT, cT, vU, vN, vS, vM, us, h1, h2, h3, h4, h5, h6, h7, h8, h9⟩ := h.ex
  exact ⟨h.ok, ⟨h.low, h1.lt⟩, AP, cP, AT, cT, vU, vN, vS, vM, us, h1, h2.lt, h3.lt, h4.lt, h5.lt, h6.lt, h7.lt, h8, fun i x v a c => (h9 i x v a c).lt⟩
end Go.Proofs.YtkdaiomjbkpedaaGreat
end
section
/- Layer 27 (hmcs): words for New: what the loops have made so far. -/
namespace Go.Proofs.YtkdaiomjbkpedaaGreat
open Go.RowKit

theorem Tryz.infoHs : (Tryz.prog.info? 99).map (fun i => (i.zero, i.size, i.bytes)) = some (some (.agg #[.pointer none, .int .i64 0]), 2, 16) := by kernel_rfl
theorem Tryz.infoHr : (Tryz.prog.info? 97).map (fun i => (i.zero, i.size, i.bytes)) = some (some (.pointer none), 1, 8) := by kernel_rfl
theorem Tryz.infoHl : (Tryz.prog.info? 100).map (fun i => (i.zero, i.size, i.bytes)) = some (some (.slice none 0 0), 1, 24) := by kernel_rfl
/-- a thread's levels, the first c of them -/
def stepsTo (lb : Nat → Nat) (T : HTr) (t c : Nat) : List Value := (List.range c).flatMap fun k => [.pointer (some ⟨lb (T.pl t k), 0, none⟩), .int .i64 (T.sl t k)]
theorem stepsTo_succ (lb : Nat → Nat) (T : HTr) (t c : Nat) : stepsTo lb T t (c + 1) = stepsTo lb T t c ++ [.pointer (some ⟨lb (T.pl t c), 0, none⟩), .int .i64 (T.sl t c)] := by
  unfold stepsTo; rw [List.range_succ, List.flatMap_append]; simp
def ptrsTo (lb : Nat → Nat) (k : Nat) : List Value := (List.range k).map fun v => .pointer (some ⟨lb v, 0, none⟩)
theorem ptrsTo_succ (lb : Nat → Nat) (k : Nat) : ptrsTo lb (k + 1) = ptrsTo lb k ++ [.pointer (some ⟨lb k, 0, none⟩)] := by
  unfold ptrsTo; rw [List.range_succ, List.map_append]; rfl
end Go.Proofs.YtkdaiomjbkpedaaGreat
end
section
/- Layer 27 (hmcs): New's first loop: the rungs made so far. -/
namespace Go.Proofs.YtkdaiomjbkpedaaGreat
open Go.RowKit

def hlkC (bud : Int) (vR vL : Value) (q n : Nat) : Array Value := #[.int .i64 bud, vR, vL, .slice (some ⟨q, 0, none⟩) n n]
/-- the table at some time of the first loop: found by a leaf's Mates, or not yet -/
def TBr (l a : Nat) (B0 : Nat → Prop) (w : World) (b : Nat) (P T : List Int) (k : Nat) (vR : Value) : Prop :=
  (leavesTo P k = [] ∧ Tab0Q B0 w b P T) ∨ ∃ B', TabQ B' w b P T ∧ (∀ i, B' i → i ≠ l ∧ i ≠ a ∧ i < w.heap.size) ∧ ∀ g, vR.ownBlock = some g → ¬ B' g
structure NwR (w5 wr : World) (l b a g q : Nat) (bud : Int) (P T : List Int) (tr : HTr) (B0 : Nat → Prop) (k : Nat) (vR : Value) (lb qb : Nat → Nat) (s : Ar) : Prop where
  tn : Turns [l, b, a] w5 wr
  blk : Blk wr l 96 (hlkC bud vR (.slice none 0 0) q tr.n)
  own : wr.ownsRow w5.heap.size 97 1 vR k (ptrsTo lb k)
  ar : ArIs wr a g s
  cat : s.W = catW (hm0 tr).W k
  room : s.room = 4096
  rk : ∀ v, v < k → Blk wr (lb v) 126 #[.pointer (some ⟨a, 0, none⟩), .int .i64 ((catW (hm0 tr).W v).length + 1), .slice (some ⟨qb v, 0, none⟩) (tr.nv v) (tr.nv v)]
  rs : ∀ v, v < k → SpIs wr (qb v) (List.replicate (tr.nv v) Sp.zero)
  lo : ∀ v, v < k → w5.heap.size ≤ lb v ∧ w5.heap.size ≤ qb v ∧ vR.ownBlock ≠ some (lb v) ∧ vR.ownBlock ≠ some (qb v)
  ne : ∀ v u, v < k → u < k → lb v ≠ qb u
  inj : ∀ v u, v < k → u < k → qb v = qb u → v = u
  tab : TBr l a B0 wr b P T k vR
theorem Turns.grownByH {w w' : World} {row : Option Nat} (h : w.grownBy w' row) : Turns row.toList w w' :=
  ⟨h.os, h.tape, h.output, h.size, fun i hi hn => h.block i hi (by intro e; rw [← e] at hn; simp at hn)⟩
theorem ptrsTo_upd (lb : Nat → Nat) (x : Nat) : ∀ k, ptrsTo (updH lb k x) k = ptrsTo lb k := fun k => by
  unfold ptrsTo
  refine List.map_congr_left fun v hv => ?_
  rw [updH_ne _ _ (by have := List.mem_range.1 hv; omega)]
section
variable {w5 wr w' : World} {l b a g q : Nat} {bud : Int} {P T : List Int} {tr : HTr} {B0 : Nat → Prop} {k : Nat} {vR : Value} {lb qb : Nat → Nat} {s : Ar}
/-- the table's block, or new ones, have turned -/
theorem NwR.move (h : NwR w5 wr l b a g q bud P T tr B0 k vR lb qb s) (t : Turns [b] wr w') (hb : b < w5.heap.size) (hl : b ≠ l) (ha : b ≠ a) (hg : b ≠ g) (ht : TBr l a B0 w' b P T k vR) : NwR w5 w' l b a g q bud P T tr B0 k vR lb qb s := by
  refine ⟨h.tn.trans (t.mono (by simp)), t.blk h.blk (by simpa using fun e => hl e.symm), Turns.own h.own t (fun x hx => ?_), h.ar.turns t (by simpa using fun e => ha e.symm) (by simpa using fun e => hg e.symm), h.cat, h.room, fun v hv => t.blk (h.rk v hv) ?_, fun v hv => (h.rs v hv).turns t ?_, h.lo, h.ne, h.inj, ht⟩
  · have := (h.own.lt x hx).1; simp; omega
  · have := (h.lo v hv).1; simp; omega
  · have := (h.lo v hv).2.1; simp; omega
theorem TBr.turns0 (h : TBr l a B0 wr b P T k vR) (t : Turns [] wr w') : TBr l a B0 w' b P T k vR := by
  rcases h with ⟨h0, h1⟩ | ⟨B', h0, h1, h2⟩
  · exact .inl ⟨h0, h1.turns t (by simp)⟩
  · exact .inr ⟨B', h0.turns t (by simp), fun i hi => ⟨(h1 i hi).1, (h1 i hi).2.1, Nat.lt_of_lt_of_le (h1 i hi).2.2 t.size⟩, h2⟩
theorem NwR.below (h : NwR w5 wr l b a g q bud P T tr B0 k vR lb qb s) (t : Below wr.heap.size wr w') (hb : b < w5.heap.size) (hl : b ≠ l) (ha : b ≠ a) (hg : b ≠ g) : NwR w5 w' l b a g q bud P T tr B0 k vR lb qb s :=
  h.move (Turns.of_below t) hb hl ha hg (h.tab.turns0 (Turns.of_below t))
def TBrF (l a : Nat) (w : World) (b : Nat) (P T : List Int) (vR : Value) : Prop := ∃ B', TabQ B' w b P T ∧ (∀ i, B' i → i ≠ l ∧ i ≠ a ∧ i < w.heap.size) ∧ ∀ g, vR.ownBlock = some g → ¬ B' g
/-- a leaf's Mates: the table is found behind it -/
theorem NwR.mates (h : NwR w5 wr l b a g q bud P T tr B0 k vR lb qb s) (hc : chkT P T = 0) (hb : b < w5.heap.size) (hl : b ≠ l) (ha : b ≠ a) (hg : b ≠ g) (h0 : ∀ i, B0 i → i ≠ l ∧ i ≠ a ∧ i < w5.heap.size) {j : Nat} {x : Int} (hj : (leavesL P)[j]? = some x) :
    Calls Tryz.prog 104 #[.pointer (some ⟨b, 0, none⟩), .int .i64 j] wr fun e w' => e = .returned (.int .i64 ((T.count x : Nat) : Int)) ∧ NwR w5 w' l b a g q bud P T tr B0 k vR lb qb s ∧ TBrF l a w' b P T vR ∧ Turns [b] wr w' := by
  have hll := h.blk.lt
  have hal := h.ar.blk.lt
  rcases h.tab with ⟨_, t0⟩ | tf
  · refine (matesFst B0 wr b P T hc t0 hj).mono ?_
    rintro e w' ⟨he, ht, tn⟩
    have hs := h.tn.size
    have F : TBrF l a w' b P T vR := ⟨_, ht.lt, fun i hi => by
      rcases hi.1 with h4 | h4
      · have := h0 i h4; exact ⟨this.1, this.2.1, hi.2⟩
      · exact ⟨by omega, by omega, hi.2⟩, fun g' hg' hB => by
      have := h.own.lt g' hg'
      rcases hB.1 with h4 | h4
      · have := (h0 _ h4).2.2; omega
      · omega⟩
    exact ⟨he, h.move tn hb hl ha hg (.inr F), F, tn⟩
  · obtain ⟨B', t1, t2, t3⟩ := tf
    refine (matesF wr b P T t1.f hj).mono ?_
    rintro e w' ⟨he, rfl⟩
    exact ⟨he, h, ⟨B', t1, t2, t3⟩, Turns.refl _ _⟩
/-- a rung more -/
theorem NwR.step {w2 w3 w4 : World} {l' q' cap cap3 g3 : Nat} {A : Option Addr} {o : Obj} (h : NwR w5 w2 l b a g q bud P T tr B0 k (.slice A k cap) lb qb s) (hT : TBrF l a w2 b P T (.slice A k cap) ∨ (leavesTo P (k + 1) = [] ∧ Tab0Q B0 w2 b P T)) (h0 : ∀ i, B0 i → i ≠ l ∧ i ≠ a ∧ i < w5.heap.size) (hl5 : l < w5.heap.size) (ha5 : a < w5.heap.size) (hg5 : g < w5.heap.size) (hla : l ≠ a) (hlg : l ≠ g) {s' : Ar} (hs' : s' = { s with W := s.W ++ List.replicate (2 * tr.nv k + 1) 0 })
    (hr : RgIs w3 l' a g q' (s.W.length + 1) ⟨s', List.replicate (tr.nv k) Sp.zero⟩) (hl' : w2.heap.size ≤ l') (hq' : w2.heap.size ≤ q') (t3 : Turns [a] w2 w3)
    (h4 : w4.ownsRow w5.heap.size 97 1 (.slice (some ⟨g3, 0, none⟩) (k + 1) cap3) (k + 1) (ptrsTo lb k ++ [.pointer (some ⟨l', 0, none⟩)])) (hg : (w3.alloc o).grownBy w4 (Value.slice A k cap).ownBlock) (hg3 : (Value.slice A k cap).ownBlock = some g3 ∨ g3 = (w3.alloc o).heap.size) :
    NwR w5 (w4.setCell ⟨l, 1, none⟩ (.slice (some ⟨g3, 0, none⟩) (k + 1) cap3)) l b a g q bud P T tr B0 (k + 1) (.slice (some ⟨g3, 0, none⟩) (k + 1) cap3) (updH lb k l') (updH qb k q') s' := by
  have hlow : ∀ x, (Value.slice A k cap).ownBlock = some x → w5.heap.size ≤ x ∧ x < w2.heap.size := fun x hx => h.own.lt x hx
  have tg : Turns (Value.slice A k cap).ownBlock.toList (w3.alloc o) w4 := Turns.grownByH hg
  have nS : ∀ x, (Value.slice A k cap).ownBlock ≠ some x → x ∉ (Value.slice A k cap).ownBlock.toList := fun x hx hm => hx (by simpa using hm)
  have hs3 : w2.heap.size ≤ w3.heap.size := t3.size
  have hs4 : w3.heap.size + 1 ≤ w4.heap.size := by have := tg.size; simpa using this
  have h52 : w5.heap.size ≤ w2.heap.size := h.tn.size
  have hl3 : l' < w3.heap.size := hr.lk.lt
  have hq3 : q' < w3.heap.size := hr.sp.lt
  have hg35 : w5.heap.size ≤ g3 := (h4.lt g3 rfl).1
  have ts : Turns [l] w4 (w4.setCell ⟨l, 1, none⟩ (.slice (some ⟨g3, 0, none⟩) (k + 1) cap3)) := (Turns.refl _ _).setCell (.inl (by simp)) _
  have t3F : Turns (l :: (Value.slice A k cap).ownBlock.toList) w3 (w4.setCell ⟨l, 1, none⟩ (.slice (some ⟨g3, 0, none⟩) (k + 1) cap3)) :=
    (((Turns.refl _ _).alloc o).trans (tg.mono fun i hi => List.mem_cons_of_mem _ hi)).trans (ts.mono (by simp))
  have t2F : Turns (a :: l :: (Value.slice A k cap).ownBlock.toList) w2 (w4.setCell ⟨l, 1, none⟩ (.slice (some ⟨g3, 0, none⟩) (k + 1) cap3)) :=
    (t3.mono (by simp)).trans (t3F.mono fun i hi => List.mem_cons_of_mem _ hi)
  have hA : (Value.slice A k cap).ownBlock ≠ some a := fun e => by have := hlow a e; omega
  have hL : (Value.slice A k cap).ownBlock ≠ some l := fun e => by have := hlow l e; omega
  have hG : (Value.slice A k cap).ownBlock ≠ some g := fun e => by have := hlow g e; omega
  have hL' : (Value.slice A k cap).ownBlock ≠ some l' := fun e => by have := hlow l' e; omega
  have hQ' : (Value.slice A k cap).ownBlock ≠ some q' := fun e => by have := hlow q' e; omega
  have n3F : ∀ x, x ≠ l → (Value.slice A k cap).ownBlock ≠ some x → x ∉ l :: (Value.slice A k cap).ownBlock.toList := fun x h1 h2 hm => by
    rcases List.mem_cons.1 hm with e | e
    · exact h1 e
    · exact nS x h2 e
  have n2F : ∀ x, x ≠ a → x ≠ l → (Value.slice A k cap).ownBlock ≠ some x → x ∉ a :: l :: (Value.slice A k cap).ownBlock.toList := fun x h0 h1 h2 hm => by
    rcases List.mem_cons.1 hm with e | e
    · exact h0 e
    · exact n3F x h1 h2 e
  have hG3 : ∀ x, x < w3.heap.size → (Value.slice A k cap).ownBlock ≠ some x → g3 ≠ x := fun x h1 h2 e => by
    subst e
    rcases hg3 with e | e
    · exact h2 e
    · have e9 : (w3.alloc o).heap.size = w3.heap.size + 1 := by simp
      omega
  have lbo : ∀ v, v < k → lb v < w2.heap.size ∧ qb v < w2.heap.size := fun v hv => ⟨(h.rk v hv).lt, (h.rs v hv).lt⟩
  have hcl : s.W.length = (catW (hm0 tr).W k).length := by rw [h.cat]
  subst hs'
  refine ⟨?_, ?_, ?_, ?_, ?_, h.room, fun v hv => ?_, fun v hv => ?_, fun v hv => ?_, fun v u hv hu => ?_, fun v u hv hu e => ?_, ?_⟩
  · refine ((h.tn.mono (T := l :: b :: a :: (Value.slice A k cap).ownBlock.toList) (by simp)).trans (t2F.mono fun i hi => ?_)).fresh fun i hi => ?_
    · rcases List.mem_cons.1 hi with e | hi
      · simp [e]
      · rcases List.mem_cons.1 hi with e | hi
        · simp [e]
        · exact List.mem_cons_of_mem _ (List.mem_cons_of_mem _ (List.mem_cons_of_mem _ hi))
    · rcases List.mem_cons.1 hi with e | hi
      · exact .inl (by simp [e])
      · rcases List.mem_cons.1 hi with e | hi
        · exact .inl (by simp [e])
        · rcases List.mem_cons.1 hi with e | hi
          · exact .inl (by simp [e])
          · exact .inr (hlow i (by simpa using hi)).1
  · exact (tg.blk ((t3.blk h.blk (by simpa using hla)).alloc o) (nS l hL)).set_ 1 _
  · rw [ptrsTo_succ, updH_eq, ptrsTo_upd]
    exact Turns.own h4 ts (fun x hx => by
      injection hx with hx
      subst hx
      simp; omega)
  · exact hr.ar.turns t3F (n3F a (fun e => hla e.symm) hA) (n3F g (fun e => hlg e.symm) hG)
  · show s.W ++ _ = catW (hm0 tr).W k ++ (hm0 tr).W k
    rw [h.cat]; rfl
  · by_cases e : v = k
    · subst e
      rw [updH_eq, updH_eq, ← hcl]
      have := hr.lk
      simp only [List.length_replicate] at this
      exact t3F.blk this (n3F l' (by omega) hL')
    · have hv' : v < k := by omega
      rw [updH_ne _ _ e, updH_ne _ _ e]
      have h1 := h.lo v hv'
      exact t2F.blk (h.rk v hv') (n2F _ (by omega) (by omega) h1.2.2.1)
  · by_cases e : v = k
    · subst e
      rw [updH_eq]
      exact hr.sp.turns t3F (n3F q' (by omega) hQ')
    · have hv' : v < k := by omega
      rw [updH_ne _ _ e]
      have h1 := h.lo v hv'
      exact (h.rs v hv').turns t2F (n2F _ (by omega) (by omega) h1.2.2.2)
  · by_cases e : v = k
    · subst e
      rw [updH_eq, updH_eq]
      refine ⟨by omega, by omega, fun e => ?_, fun e => ?_⟩
      · injection e with e; exact hG3 l' hl3 hL' e
      · injection e with e; exact hG3 q' hq3 hQ' e
    · have hv' : v < k := by omega
      rw [updH_ne _ _ e, updH_ne _ _ e]
      have h1 := h.lo v hv'
      have h2 := lbo v hv'
      refine ⟨h1.1, h1.2.1, fun e => ?_, fun e => ?_⟩
      · injection e with e; exact hG3 _ (by omega) h1.2.2.1 e
      · injection e with e; exact hG3 _ (by omega) h1.2.2.2 e
  · by_cases e : v = k
    · subst e
      rw [updH_eq]
      by_cases e2 : u = v
      · subst e2; rw [updH_eq]; exact hr.lq
      · rw [updH_ne _ _ e2]
        have := lbo u (by omega); omega
    · rw [updH_ne _ _ e]
      by_cases e2 : u = k
      · subst e2; rw [updH_eq]; have := lbo v (by omega); omega
      · rw [updH_ne _ _ e2]
        exact h.ne v u (by omega) (by omega)
  · by_cases e1 : v = k
    · by_cases e2 : u = k
      · rw [e1, e2]
      · rw [e1, updH_eq, updH_ne _ _ e2] at e
        have := lbo u (by omega); omega
    · by_cases e2 : u = k
      · rw [e2, updH_eq, updH_ne _ _ e1] at e
        have := lbo v (by omega); omega
      · rw [updH_ne _ _ e1, updH_ne _ _ e2] at e
        exact h.inj v u (by omega) (by omega) e
  · rcases hT with ⟨B', k1, k2, k3⟩ | ⟨k1, k2⟩
    · refine .inr ⟨B', k1.turns t2F fun i hi hB => ?_, fun i hB => ⟨(k2 i hB).1, (k2 i hB).2.1, ?_⟩, fun x hx hB => ?_⟩
      · have := k2 i hB
        simp at hi
        rcases hi with e | e | e
        · exact this.2.1 e
        · exact this.1 e
        · exact k3 i e hB
      · have := (k2 i hB).2.2
        have := ts.size
        omega
      · injection hx with hx
        subst hx
        rcases hg3 with e | e
        · exact k3 _ e hB
        · have := (k2 _ hB).2.2
          rw [e] at this
          simp at this
          omega
    · refine .inl ⟨k1, k2.turns t2F fun i hi hB => ?_⟩
      have := h0 i hB
      simp at hi
      rcases hi with e | e | e
      · omega
      · omega
      · have := (hlow i e).1; omega
end
end Go.Proofs.YtkdaiomjbkpedaaGreat
end
section
/- Layer 27 (hmcs): New's second loop: the levels made so far; the lock that New has made. -/
namespace Go.Proofs.YtkdaiomjbkpedaaGreat
open Go.RowKit

def rowsTo (ub uk : Nat → Nat) (D m : Nat) : List Value := (List.range m).map fun t => .slice (some ⟨ub t, 0, none⟩) D (uk t)
theorem rowsTo_succ (ub uk : Nat → Nat) (D m : Nat) : rowsTo ub uk D (m + 1) = rowsTo ub uk D m ++ [.slice (some ⟨ub m, 0, none⟩) D (uk m)] := by
  unfold rowsTo; rw [List.range_succ, List.map_append]; rfl
theorem rowsTo_upd (ub uk : Nat → Nat) (D x y : Nat) : ∀ m, rowsTo (updH ub m x) (updH uk m y) D m = rowsTo ub uk D m := fun m => by
  unfold rowsTo
  refine List.map_congr_left fun v hv => ?_
  have := List.mem_range.1 hv
  rw [updH_ne _ _ (by omega), updH_ne _ _ (by omega)]
theorem stepsTo_len (lb : Nat → Nat) (T : HTr) (t : Nat) : ∀ c, (stepsTo lb T t c).length = c * 2
  | 0 => rfl
  | c + 1 => by rw [stepsTo_succ, List.length_append, stepsTo_len lb T t c]; show c * 2 + 2 = _; omega
theorem stepsTo_get (lb : Nat → Nat) (T : HTr) (t : Nat) : ∀ c k, k < c → (stepsTo lb T t c)[k * 2]? = some (.pointer (some ⟨lb (T.pl t k), 0, none⟩)) ∧ (stepsTo lb T t c)[k * 2 + 1]? = some (.int .i64 (T.sl t k))
  | 0, k, h => by omega
  | c + 1, k, h => by
    have hl := stepsTo_len lb T t c
    rw [stepsTo_succ]
    by_cases e : k = c
    · subst e
      rw [List.getElem?_append_right (by omega), List.getElem?_append_right (by omega), hl, Nat.sub_self, show k * 2 + 1 - k * 2 = 1 by omega]
      exact ⟨rfl, rfl⟩
    · rw [List.getElem?_append_left (by omega), List.getElem?_append_left (by omega)]
      exact stepsTo_get lb T t c k (by omega)
theorem ptrsTo_get (lb : Nat → Nat) (n v : Nat) (h : v < n) : (ptrsTo lb n)[v]? = some (.pointer (some ⟨lb v, 0, none⟩)) := by
  unfold ptrsTo; simp [h]
theorem rowsTo_get (ub uk : Nat → Nat) (D m t : Nat) (h : t < m) : (rowsTo ub uk D m)[t]? = some (.slice (some ⟨ub t, 0, none⟩) D (uk t)) := by
  unfold rowsTo; simp [h]
structure NwL (w6 wl : World) (l q : Nat) (bud : Int) (tr : HTr) (vR : Value) (lb : Nat → Nat) (m : Nat) (vL : Value) (ub uk : Nat → Nat) : Prop where
  tn : Turns [l] w6 wl
  blk : Blk wl l 96 (hlkC bud vR vL q tr.n)
  own : wl.ownsRow w6.heap.size 100 1 vL m (rowsTo ub uk tr.D m)
  rs : ∀ t, t < m → wl.ownsRow w6.heap.size 99 2 (.slice (some ⟨ub t, 0, none⟩) tr.D (uk t)) tr.D (stepsTo lb tr t tr.D)
  lo : ∀ t, t < m → vL.ownBlock ≠ some (ub t)
section
variable {w5 w6 wl w8 w9 : World} {l b a g q : Nat} {bud : Int} {P T : List Int} {tr : HTr} {B0 : Nat → Prop} {m : Nat} {vR : Value} {lb qb ub uk : Nat → Nat} {s : Ar}
theorem NwL.below {vL : Value} (h : NwL w6 wl l q bud tr vR lb m vL ub uk) (k : Below wl.heap.size wl w8) : NwL w6 w8 l q bud tr vR lb m vL ub uk :=
  have t : Turns [] wl w8 := Turns.of_below k
  ⟨h.tn.trans (t.mono (by simp)), t.blk h.blk (by simp), Turns.own h.own t (by simp), fun u hu => Turns.own (h.rs u hu) t (by simp), h.lo⟩
/-- a thread's levels more -/
theorem NwL.step {A : Option Addr} {cap nb cv g9 c9 : Nat} {o : Obj} (h : NwL w6 wl l q bud tr vR lb m (.slice A m cap) ub uk) (hl6 : l < w6.heap.size) (hd : 1 ≤ tr.D) (hb : Below wl.heap.size wl w8) (h8 : w8.ownsRow wl.heap.size 99 2 (.slice (some ⟨nb, 0, none⟩) tr.D cv) tr.D (stepsTo lb tr m tr.D))
    (h9 : w9.ownsRow w6.heap.size 100 1 (.slice (some ⟨g9, 0, none⟩) (m + 1) c9) (m + 1) (rowsTo ub uk tr.D m ++ [.slice (some ⟨nb, 0, none⟩) tr.D cv])) (hg : (w8.alloc o).grownBy w9 (Value.slice A m cap).ownBlock) (hg9 : (Value.slice A m cap).ownBlock = some g9 ∨ g9 = (w8.alloc o).heap.size) :
    NwL w6 (w9.setCell ⟨l, 2, none⟩ (.slice (some ⟨g9, 0, none⟩) (m + 1) c9)) l q bud tr vR lb (m + 1) (.slice (some ⟨g9, 0, none⟩) (m + 1) c9) (updH ub m nb) (updH uk m cv) := by
  have h8' := h.below hb
  have hlow : ∀ x, (Value.slice A m cap).ownBlock = some x → w6.heap.size ≤ x ∧ x < wl.heap.size := fun x hx => h.own.lt x hx
  have tg : Turns (Value.slice A m cap).ownBlock.toList (w8.alloc o) w9 := Turns.grownByH hg
  have nS : ∀ x, (Value.slice A m cap).ownBlock ≠ some x → x ∉ (Value.slice A m cap).ownBlock.toList := fun x hx hm => hx (by simpa using hm)
  have hs8 : wl.heap.size ≤ w8.heap.size := hb.size
  have h6l : w6.heap.size ≤ wl.heap.size := h.tn.size
  have hg96 : w6.heap.size ≤ g9 := (h9.lt g9 rfl).1
  have hnb := h8.lt nb rfl
  have hL : (Value.slice A m cap).ownBlock ≠ some l := fun e => by have := hlow l e; omega
  have hNB : (Value.slice A m cap).ownBlock ≠ some nb := fun e => by have := hlow nb e; omega
  have ts : Turns [l] w9 (w9.setCell ⟨l, 2, none⟩ (.slice (some ⟨g9, 0, none⟩) (m + 1) c9)) := (Turns.refl _ _).setCell (.inl (by simp)) _
  have t8F : Turns (l :: (Value.slice A m cap).ownBlock.toList) w8 (w9.setCell ⟨l, 2, none⟩ (.slice (some ⟨g9, 0, none⟩) (m + 1) c9)) :=
    (((Turns.refl _ _).alloc o).trans (tg.mono fun i hi => List.mem_cons_of_mem _ hi)).trans (ts.mono (by simp))
  have nF : ∀ x, x ≠ l → (Value.slice A m cap).ownBlock ≠ some x → x ∉ l :: (Value.slice A m cap).ownBlock.toList := fun x h1 h2 hm => by
    rcases List.mem_cons.1 hm with e | e
    · exact h1 e
    · exact nS x h2 e
  have hG9 : ∀ x, x < w8.heap.size → (Value.slice A m cap).ownBlock ≠ some x → g9 ≠ x := fun x h1 h2 e => by
    subst e
    rcases hg9 with e | e
    · exact h2 e
    · have e9 : (w8.alloc o).heap.size = w8.heap.size + 1 := by simp
      omega
  refine ⟨?_, ?_, ?_, fun t ht => ?_, fun t ht => ?_⟩
  · refine ((h8'.tn.mono (T := l :: (Value.slice A m cap).ownBlock.toList) (by simp)).trans t8F).fresh fun i hi => ?_
    rcases List.mem_cons.1 hi with e | e
    · exact .inl (by simp [e])
    · exact .inr (hlow i (by simpa using e)).1
  · exact (tg.blk (h8'.blk.alloc o) (nS l hL)).set_ 2 _
  · rw [rowsTo_succ, updH_eq, updH_eq, rowsTo_upd]
    exact Turns.own h9 ts (fun x hx => by
      injection hx with hx
      subst hx
      simp; omega)
  · by_cases e : t = m
    · subst e
      rw [updH_eq, updH_eq]
      refine Turns.own (own_lower h8 h6l) t8F fun x hx => ?_
      injection hx with hx
      subst hx
      exact nF _ (by have := hnb.1; show nb ≠ l; omega) hNB
    · have ht' : t < m := by omega
      rw [updH_ne _ _ e, updH_ne _ _ e]
      refine Turns.own (h8'.rs t ht') t8F fun x hx => ?_
      injection hx with hx
      subst hx
      have := ((h.rs t ht').lt (ub t) rfl).1
      exact nF _ (by show ub t ≠ l; omega) (h.lo t ht')
  · by_cases e : t = m
    · subst e
      rw [updH_eq]
      intro e
      injection e with e
      exact hG9 nb hnb.2 hNB e
    · have ht' : t < m := by omega
      rw [updH_ne _ _ e]
      intro e
      injection e with e
      have := ((h.rs t ht').lt (ub t) rfl).2
      exact hG9 _ (by omega) (h.lo t ht') e
def hxOf (l a g q : Nat) (lb qb : Nat → Nat) (bR kR bL kL : Nat) (ub uk : Nat → Nat) : Hx := ⟨l, a, g, q, lb, qb, bR, 0, kR, bL, 0, kL, ub, fun _ => 0, uk⟩
def hxB (l bR bL : Nat) (lb ub : Nat → Nat) (T : HTr) (i : Nat) : Prop := i = l ∨ i = bR ∨ i = bL ∨ (∃ t, t < T.n ∧ i = ub t) ∨ ∃ v, v < T.np ∧ i = lb v
/-- New's end -/
theorem nwIs {bR kR bL kL lo : Nat} (hN : NwR w5 w6 l b a g q bud P T tr B0 tr.np (.slice (some ⟨bR, 0, none⟩) tr.np kR) lb qb s) (hL : NwL w6 wl l q bud tr (.slice (some ⟨bR, 0, none⟩) tr.np kR) lb tr.n (.slice (some ⟨bL, 0, none⟩) tr.n kL) ub uk)
    (hq : SpIs w6 q (List.replicate tr.n Sp.zero)) (hok : tr.Ok) (h5 : tr.D ≤ 5) (hn : tr.n ≤ 32) (hp : tr.np ≤ 32) (hl : lo ≤ l ∧ l < w5.heap.size) (hq5 : lo ≤ q ∧ q < w5.heap.size) (ha : a < lo) (hg : g < lo) (hlq : l ≠ q) :
    HmIs (hxB l bR bL lb ub tr) wl (hxOf l a g q lb qb bR kR bL kL ub uk) tr bud s (hm0 tr) ∧ ∀ i, hxB l bR bL lb ub tr i → lo ≤ i := by
  have h56 := hN.tn.size
  have h6l := hL.tn.size
  have hbR := hN.own.lt bR rfl
  have hbL := hL.own.lt bL rfl
  have hub : ∀ t, t < tr.n → w6.heap.size ≤ ub t ∧ ub t < wl.heap.size := fun t ht => (hL.rs t ht).lt (ub t) rfl
  have hlb : ∀ v, v < tr.np → lb v < w6.heap.size ∧ qb v < w6.heap.size := fun v hv => ⟨(hN.rk v hv).lt, (hN.rs v hv).lt⟩
  have hlo : ∀ v, v < tr.np → w5.heap.size ≤ lb v ∧ w5.heap.size ≤ qb v ∧ bR ≠ lb v ∧ bR ≠ qb v := fun v hv => by
    obtain ⟨a1, a2, a3, a4⟩ := hN.lo v hv
    exact ⟨a1, a2, fun e => a3 (by rw [← e]; rfl), fun e => a4 (by rw [← e]; rfl)⟩
  have hd := hok.d1
  have t := hL.tn
  have hPl : ∀ v, ((hm0 tr).P v).length = tr.nv v := fun v => by simp [hm0]
  have hWl : ∀ v, ((hm0 tr).W v).length = 2 * tr.nv v + 1 := fun v => by simp [hm0]
  have hkR : tr.np ≤ kR := by
    rcases hN.own.2 with ⟨e, _⟩ | ⟨_, _, _, e, _, _, h1, _⟩
    · simp at e
    · injection e with _ _ e; omega
  have hkL : tr.n ≤ kL := by
    rcases hL.own.2 with ⟨e, _⟩ | ⟨_, _, _, e, _, _, h1, _⟩
    · simp at e
    · injection e with _ _ e; omega
  have huk : ∀ u, u < tr.n → tr.D ≤ uk u := fun u hu => by
    rcases (hL.rs u hu).2 with ⟨e, _⟩ | ⟨_, _, _, e, _, _, h1, _⟩
    · simp at e
    · injection e with _ _ e; omega
  refine ⟨⟨⟨.inl rfl, .inr (.inl rfl), .inr (.inr (.inl rfl)), fun u hu => .inr (.inr (.inr (.inl ⟨u, hu, rfl⟩))), fun v hv => .inr (.inr (.inr (.inr ⟨v, hv, rfl⟩))), ?_, ?_, ?_, fun v hv => ?_, fun v hv => ?_, fun v hv => ?_, hN.inj, hn, hp, h5, hok.nv32, hkR, hkL, huk⟩,
    ?_, hN.cat, fun v _ => hWl v, hL.blk, by simp [hm0], ?_, fun v hv => ?_, fun v _ => hPl v, fun v hv => ?_, fun v hv => ?_, fun u hu => ?_, fun u k hu hk => ?_, fun u k hu hk => ?_, fun i hi => ?_⟩, fun i hi => ?_⟩
  · intro i hi hB
    have hi' : i = a ∨ i = g ∨ i = q ∨ ∃ v, v < tr.np ∧ qb v = i := by
      unfold mvL hxOf at hi
      rcases List.mem_append.1 hi with hi | hi
      · simp at hi; omega
      · obtain ⟨v, hv, e⟩ := List.mem_map.1 hi
        exact .inr (.inr (.inr ⟨v, List.mem_range.1 hv, e⟩))
    rcases hB with e | e | e | ⟨u, hu, e⟩ | ⟨u, hu, e⟩
    · rcases hi' with e2 | e2 | e2 | ⟨v, hv, e2⟩
      · omega
      · omega
      · omega
      · have := hlo v hv; omega
    · rcases hi' with e2 | e2 | e2 | ⟨v, hv, e2⟩
      · omega
      · omega
      · omega
      · have := hlo v hv; omega
    · rcases hi' with e2 | e2 | e2 | ⟨v, hv, e2⟩
      · omega
      · omega
      · omega
      · have := hlb v hv; omega
    · have := hub u hu
      rcases hi' with e2 | e2 | e2 | ⟨v, hv, e2⟩
      · omega
      · omega
      · omega
      · have := hlb v hv; omega
    · have := hlo u hu
      rcases hi' with e2 | e2 | e2 | ⟨v, hv, e2⟩
      · omega
      · omega
      · omega
      · exact hN.ne u v hu hv (by omega)
  · show q ≠ a; omega
  · show q ≠ g; omega
  · show qb v ≠ a; have := hlo v hv; omega
  · show qb v ≠ g; have := hlo v hv; omega
  · show qb v ≠ q; have := hlo v hv; omega
  · exact hN.ar.turns t (by simp; omega) (by simp; omega)
  · exact hq.turns t (by simp; omega)
  · show Blk wl (lb v) _ #[_, _, .slice _ ((hm0 tr).P v).length ((hm0 tr).P v).length]
    rw [hPl]
    exact t.blk (hN.rk v hv) (by have := hlo v hv; simp; omega)
  · exact (hN.rs v hv).turns t (by have := hlo v hv; simp; omega)
  · have c := hN.own.cellAt v (by omega)
    rw [ptrsTo_get _ _ _ hv] at c
    show wl.cell? ⟨bR, 0 + v, none⟩ = _
    rw [Nat.zero_add]
    exact t.cell c (by simp; omega)
  · have c := hL.own.cellAt u (by omega)
    rw [rowsTo_get _ _ _ _ _ hu] at c
    show wl.cell? ⟨bL, 0 + u, none⟩ = _
    rw [Nat.zero_add]
    exact c
  · have c := (hL.rs u hu).cellAt (k * 2) (by omega)
    rw [(stepsTo_get lb tr u tr.D k hk).1] at c
    show wl.cell? ⟨ub u, 0 + k * 2, none⟩ = _
    rw [Nat.zero_add]
    exact c
  · have c := (hL.rs u hu).cellAt (k * 2 + 1) (by omega)
    rw [(stepsTo_get lb tr u tr.D k hk).2] at c
    show wl.cell? ⟨ub u, 0 + k * 2 + 1, none⟩ = _
    rw [Nat.zero_add]
    exact c
  · rcases hi with e | e | e | ⟨u, hu, e⟩ | ⟨u, hu, e⟩
    · omega
    · omega
    · omega
    · have := hub u hu; omega
    · have := hlb u hu; omega
  · rcases hi with e | e | e | ⟨u, hu, e⟩ | ⟨u, hu, e⟩
    · omega
    · omega
    · omega
    · have := hub u hu; omega
    · have := hlo u hu; omega
end
end Go.Proofs.YtkdaiomjbkpedaaGreat
end
section
/- Layer 27 (hmcs): words for New: leaves, slots, the rung of a place. -/
namespace Go.Proofs.YtkdaiomjbkpedaaGreat
open Go.RowKit

theorem leaf_iff {P : List Int} {k : Nat} (hk : k < P.length) : chL P k = [] ↔ leafB P k = true := by
  refine ⟨fun h => ?_, leaf_ch⟩
  unfold leafB
  rw [decide_eq_true_eq]
  refine ⟨by omega, by omega, fun hm => ?_⟩
  obtain ⟨n, hn⟩ := List.getElem?_of_mem hm
  have := mem_ch hn
  rw [h] at this
  cases this
theorem leaf_at {P : List Int} {k : Nat} (hk : k < P.length) (h : leafB P k = true) : (leavesL P)[(leavesTo P k).length]? = some (k : Int) := by
  have key : ∀ d, (leavesTo P (k + 1 + d))[(leavesTo P k).length]? = some (k : Int) ∧ (leavesTo P k).length < (leavesTo P (k + 1 + d)).length := by
    intro d
    induction d with
    | zero =>
      have e : leavesTo P (k + 1) = leavesTo P k ++ [(k : Int)] := by rw [leavesTo_succ, if_pos h]
      show (leavesTo P (k + 1))[_]? = _ ∧ _ < (leavesTo P (k + 1)).length
      rw [e]
      exact ⟨by simp, by simp⟩
    | succ d ih =>
      show (leavesTo P (k + 1 + d + 1))[_]? = _ ∧ _ < (leavesTo P (k + 1 + d + 1)).length
      rw [leavesTo_succ P (k + 1 + d)]
      split
      · exact ⟨by rw [List.getElem?_append_left ih.2]; exact ih.1, by simp; omega⟩
      · exact ih
  have := (key (P.length - (k + 1))).1
  rwa [show k + 1 + (P.length - (k + 1)) = P.length by omega] at this
theorem nvT_le {P T : List Int} (h : chkT P T = 0) {k : Nat} (hk : k < P.length) : 1 ≤ nvT P T k ∧ nvT P T k ≤ 32 := by
  refine ⟨?_, (treeT_ok h).nv32 k hk⟩
  unfold nvT
  split
  · omega
  · rename_i hn
    have := List.length_pos_iff.2 hn
    omega
theorem cat0_len {P T : List Int} (h : chkT P T = 0) {k : Nat} (hk : k ≤ P.length) : (catW (hm0 (treeT P T)).W k).length ≤ 2080 := by
  have hml := many_lt (chk_ok h).1
  have h1 := catW_le (W := (hm0 (treeT P T)).W) (b := 65) k fun v hv => by
    have := (nvT_le h (show v < P.length by omega)).2
    have e : ((hm0 (treeT P T)).W v).length = 2 * nvT P T v + 1 := by simp [hm0, treeT]
    omega
  omega
/-- a slot's number, as it is reckoned -/
theorem slT {P T : List Int} (h : chkT P T = 0) {t : Nat} (ht : t < T.length) {x : Int} (a : XAt P T t x) {k : Nat} (hk : k < (depT P T).toNat) : (((treeT P T).sl t k : Nat) : Int) = slX P T t x k := by
  have ex : T.getD t 0 = x := getD_of a.at_
  show (((slX P T t (T.getD t 0) k).toNat : Nat) : Int) = _
  rw [ex]
  cases k with
  | zero =>
    have : 0 ≤ slX P T t x 0 := by
      show 0 ≤ slotOf T t
      unfold slotOf; omega
    omega
  | succ k =>
    obtain ⟨v, u, j, _, _, _, _, b5, _⟩ := a.above h hk
    rw [b5]; omega
/-- a rung of New's -/
theorem rungNewH {w : World} {a g : Nat} {s : Ar} (h : ArIs w a g s) (n : Nat) (h1 : 1 ≤ n) (h2 : n ≤ 32) (hr : s.room = 4096) (hs : s.W.length ≤ 2080) :
    Calls Tryz.prog 105 #[.pointer (some ⟨a, 0, none⟩), .int .i64 n] w fun e w' => ∃ l q, e = .returned (.tuple #[.pointer (some ⟨l, 0, none⟩), .int .i64 0]) ∧ RgIs w' l a g q (s.W.length + 1) ⟨{ s with W := s.W ++ List.replicate (2 * n + 1) 0 }, List.replicate n Sp.zero⟩ ∧ w.heap.size ≤ l ∧ w.heap.size ≤ q ∧ Turns [a] w w' := by
  refine (newRg_any h n).mono ?_
  intro e w' hN
  have e0 : newRgOk s n = 0 := by unfold newRgOk; rw [hr, if_neg (by omega), if_neg (by omega)]
  unfold NewRg at hN
  rw [if_pos e0] at hN
  obtain ⟨l, q, k1, k2, k3⟩ := hN
  rw [show (2 * (n : Int) + 1).toNat = 2 * n + 1 by omega, Int.toNat_natCast] at k2
  exact ⟨l, q, k1, k2, k3⟩
theorem flatI_eq (l : List Int) : l.flatMap encI = l.map (Value.int .i64) := by
  induction l with
  | nil => rfl
  | cons a l ih => rw [List.flatMap_cons, ih]; rfl
theorem cell_two_new (w : World) (x y : Value) (t : TypeId) : ∀ j u, [x, y][j]? = some u → (w.alloc (.cells #[x, y] t)).cell? ((⟨w.heap.size, 0, none⟩ : Addr).add j) = some u := by
  intro j u hj
  match j, hj with
  | 0, hj =>
    simp at hj
    subst hj
    simp [Addr.add, World.cell?_alloc_new]
  | 1, hj =>
    simp at hj
    subst hj
    simp [Addr.add, World.cell?_alloc_new]
  | n + 2, hj => simp at hj
end Go.Proofs.YtkdaiomjbkpedaaGreat
end
