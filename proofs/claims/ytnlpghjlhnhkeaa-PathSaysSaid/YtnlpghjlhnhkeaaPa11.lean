/- path.Table: Node, Slot, Mates, Up of any number. -/
import Derived.Test.YtnlpghjlhnhkeaaPa10
namespace Go.Proofs.Ytnlpghjlhnhkeaa
open Go.RowKit

def nodeI (P T : List Int) (i : Int) : Int := if hasB T i then idxI (leavesL P) (T.getD i.toNat 0) else -1
def slotI (T : List Int) (i : Int) : Int := if hasB T i then slotOf T i.toNat else -1
def matesI (P T : List Int) (n : Int) : Int := if 0 ≤ n ∧ n < (leavesL P).length then ((T.count ((leavesL P).getD n.toNat 0) : Nat) : Int) else 0
def upI (P T : List Int) (i : Int) : List Int := if hasB T i then upL P (T.getD i.toNat 0) else []
theorem has_nat {T : List Int} {i : Int} (h : hasB T i = true) : ∃ k : Nat, i = k ∧ k < T.length := by
  unfold hasB at h
  have h' := of_decide_eq_true h
  exact ⟨i.toNat, by omega, by omega⟩
/-- a method that leaves a table a table -/
def Tells (w : World) (b : Nat) (P T : List Int) (v : Value) (e : Ending) (w' : World) : Prop := e = .returned v ∧ Tab w' b P T ∧ Turns [b] w w'
theorem nodeT (w : World) (b : Nat) (P T : List Int) (i : Int) (h : Tab w b P T) : Calls Try.prog 17 #[.pointer (some ⟨b, 0, none⟩), .int .i64 i] w (Tells w b P T (.int .i64 (nodeI P T i))) := by
  cases hh : hasB T i
  · refine (node_any_no w b P T i hh h).mono ?_
    rintro e w' ⟨rfl, rfl⟩
    exact ⟨by unfold nodeI; rw [hh]; rfl, h, Turns.refl _ _⟩
  · obtain ⟨k, rfl, hk⟩ := has_nat hh
    have hx : (nodesTo P T T.length)[k]? = some (idxI (leavesL P) (T.getD k 0)) := by
      obtain ⟨x, hx⟩ := getElem?_lt hk
      unfold nodesTo
      rw [List.take_length, List.getElem?_map, hx, getD_of hx]; rfl
    refine (node_any w b P T k hk h _ hx).mono ?_
    rintro e w' ⟨rfl, h1, h2⟩
    exact ⟨by unfold nodeI; rw [hh]; simp, h1.tab, h2⟩
theorem slotT (w : World) (b : Nat) (P T : List Int) (i : Int) (h : Tab w b P T) : Calls Try.prog 16 #[.pointer (some ⟨b, 0, none⟩), .int .i64 i] w (Tells w b P T (.int .i64 (slotI T i))) := by
  cases hh : hasB T i
  · refine (slot_any_no w b P T i hh h).mono ?_
    rintro e w' ⟨rfl, rfl⟩
    exact ⟨by unfold slotI; rw [hh]; rfl, h, Turns.refl _ _⟩
  · obtain ⟨k, rfl, hk⟩ := has_nat hh
    have hx : (slotsTo T T.length)[k]? = some (slotOf T k) := by unfold slotsTo; simp [hk]
    refine (slot_any w b P T k hk h _ hx).mono ?_
    rintro e w' ⟨rfl, h1, h2⟩
    exact ⟨by unfold slotI; rw [hh]; simp, h1.tab, h2⟩
set_option maxHeartbeats 1000000 in
theorem matesT (w : World) (b : Nat) (P T : List Int) (n : Int) (h : Tab w b P T) : Calls Try.prog 15 #[.pointer (some ⟨b, 0, none⟩), .int .i64 n] w (Tells w b P T (.int .i64 (matesI P T n))) := by
  have HN := Lib.hid (nodes_any w b P T h)
  have H := Lib.hid h
  have hll : (leavesL P).length ≤ 32 := by have h1 := (many_lt (chk_ok h.1).1).2.1; have := leavesTo_len P P.length; show (leavesTo P P.length).length ≤ _; omega
  obtain ⟨L, hL⟩ : ∃ L, L = (leavesL P).length := ⟨_, rfl⟩
  rw [← hL] at HN hll
  have HL := Lib.hid hL
  clear h hL
  by_cases h0 : n < 0
  · have HM : Hid (matesI P T n = 0) := Lib.hid (by unfold matesI; rw [if_neg (by omega)])
    go_enter Try.func15, Try.ntmps15
    go_wp2
    go_ret
    exact ⟨ret_int HM.out.symm, H.out, Turns.refl _ _⟩
  · obtain ⟨k, rfl⟩ := Int.eq_ofNat_of_zero_le (show 0 ≤ n by omega)
    by_cases hk : k < L
    · have HM : Hid (matesI P T k = ((T.count ((leavesL P).getD k 0) : Nat) : Int)) := Lib.hid (by unfold matesI; rw [if_pos (by have := HL.out; omega)]; simp)
      have HX : Hid ((matesTo P T T.length)[k]? = some ((T.count ((leavesL P).getD k 0) : Nat) : Int)) := Lib.hid (by
        obtain ⟨x, hx⟩ := getElem?_lt (show k < (leavesL P).length by have := HL.out; omega)
        unfold matesTo
        rw [List.take_length, List.getElem?_map, hx, getD_of hx]; rfl)
      go_enter Try.func15, Try.ntmps15
      go_wp2_with fail
      refine HN.out.mono ?_
      rintro en w1 ⟨rfl, hF, hT⟩
      have HTF := Lib.hid (And.intro hF hT)
      have HF := Lib.hid (found_again w1 b P T hF)
      clear hF hT
      go_wp2_with fail
      refine HF.out.mono ?_
      rintro en w2 ⟨rfl, rfl⟩
      obtain ⟨AP, cP, AT, cT, vU, vN, vS, vM, us, h1, h2, h3, h4, h5, h6, h7, h8, h9⟩ := HTF.out.1.ex
      have hl : (matesTo P T T.length).length = L := by rw [matesTo_len]; exact HL.out.symm
      obtain ⟨AM, cM, rfl, _, _⟩ := rdl_form h6
      obtain ⟨b1, o1, hA, _, hc1⟩ := rdl_int h6 (by omega)
      subst hA
      have q1 := hc1 k _ HX.out
      have c8 := h1.cell 8
      rw [hl] at *
      simp only [tabC] at c8
      clear h1 h2 h3 h4 h5 h6 h7 h8 h9 hc1 hl
      go_wp2
      go_ret
      exact ⟨ret_int HM.out.symm, HTF.out.1.tab, HTF.out.2⟩
    · have HM : Hid (matesI P T k = 0) := Lib.hid (by unfold matesI; rw [if_neg (by have := HL.out; omega)])
      go_enter Try.func15, Try.ntmps15
      go_wp2_with fail
      refine HN.out.mono ?_
      rintro en w1 ⟨rfl, hF, hT⟩
      have HTF := Lib.hid (And.intro hF hT)
      clear hF hT
      go_wp2
      go_ret
      exact ⟨ret_int HM.out.symm, HTF.out.1.tab, HTF.out.2⟩
theorem TabF.upAt {w : World} {b : Nat} {P T : List Int} (h : TabF w b P T) {k : Nat} {x : Int} (hx : T[k]? = some x) :
    ∃ b1 o1 cu A c, w.cell? ⟨b, 5, none⟩ = some (.slice (some ⟨b1, o1, none⟩) T.length cu) ∧ w.cell? ⟨b1, o1 + k, none⟩ = some (.slice A (upL P x).length c) ∧ RdL w (.slice A (upL P x).length c) 1 encI (upL P x) ∧ T.length ≤ cu ∧ b1 < w.heap.size := by
  obtain ⟨AP, cP, AT, cT, vU, vN, vS, vM, us, h1, h2, h3, h4, h5, h6, h7, h8, h9⟩ := h.ex
  have hk := (List.getElem?_eq_some_iff.1 hx).1
  obtain ⟨v, hv⟩ := getElem?_lt (show k < us.length by omega)
  have hr := h9 k x v hx hv
  obtain ⟨A, c, rfl, _, _⟩ := rdl_form hr
  obtain ⟨AU, cU, rfl, m1, m2, m3⟩ := h7
  obtain ⟨b1, o1, rfl, hb, hc⟩ := m3 (by omega)
  have c5 := h1.cell 5
  simp only [tabC, h8] at c5
  exact ⟨b1, o1, cU, A, c, c5, by simpa using hc k _ hv 0 _ rfl, hr, by omega, hb⟩
/-- Up: a list of its own -/
def TellsUp (w : World) (b : Nat) (P T : List Int) (i : Int) (e : Ending) (w' : World) : Prop :=
  ∃ v, e = .returned v ∧ w'.ownsRow w.heap.size 3 1 v (upI P T i).length ((upI P T i).flatMap encI) ∧ Tab w' b P T ∧ Turns [b] w w'
set_option maxHeartbeats 1000000 in
theorem upT (w : World) (b : Nat) (P T : List Int) (i : Int) (h : Tab w b P T) : Calls Try.prog 23 #[.pointer (some ⟨b, 0, none⟩), .int .i64 i] w (TellsUp w b P T i) := by
  cases hh : hasB T i
  · have HU : Hid (upI P T i = []) := Lib.hid (by unfold upI; rw [hh]; rfl)
    have HH := Lib.hid (has_b w b P T i false hh h)
    have H := Lib.hid h
    clear h hh
    go_enter Try.func23, Try.ntmps23
    go_wp2_with fail
    refine HH.out.mono ?_
    rintro en w' ⟨rfl, rfl⟩
    go_wp2
    go_ret
    exact ⟨_, rfl, by rw [HU.out]; exact World.ownsRow_nil _ _ _ _, H.out, Turns.refl _ _⟩
  · obtain ⟨k, rfl, hk⟩ := has_nat hh
    obtain ⟨x, hx⟩ := getElem?_lt hk
    have HU : Hid (upI P T k = upL P x) := Lib.hid (by unfold upI; rw [hh]; simp [hx])
    have HH := Lib.hid (has_b w b P T k true hh h)
    have HF := Lib.hid (found_any w b P T h)
    have H32 : (upL P x).length ≤ 32 := by have h1 := (many_lt (chk_ok h.1).1).2.1; have := upL_le P x; omega
    have HX := Lib.hid hx
    clear h hh hx
    go_enter Try.func23, Try.ntmps23
    go_wp2_with fail
    refine HH.out.mono ?_
    rintro en w' ⟨rfl, rfl⟩
    go_wp2_with fail
    refine HF.out.mono ?_
    rintro en w1 ⟨rfl, hF, hT⟩
    obtain ⟨b1, o1, cu, A, c, c5, cu1, hr, hcu, hb1⟩ := hF.upAt HX.out
    have HTF := Lib.hid (And.intro hF hT)
    have HR := Lib.hid hr
    clear hF hT hr
    go_wp2_with fail
    refine (clone_any _ _ (upL P x) HR.out (by omega)).mono ?_
    rintro en w2 ⟨v2, rfl, o2, b2⟩
    have HO := Lib.hid (And.intro o2 b2)
    clear o2 b2
    go_wp2
    go_ret
    refine ⟨_, rfl, ?_, (HTF.out.1.below HO.out.2).tab, HTF.out.2.trans (Turns.of_below HO.out.2)⟩
    rw [HU.out]
    exact own_lower HO.out.1 HTF.out.2.size
end Go.Proofs.Ytnlpghjlhnhkeaa
