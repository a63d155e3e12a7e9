/- path.Table: Node, Slot (written by wip/gen_pa10.py). -/
import Derived.Test.YtnlpghjlhnhkeaaPa9
namespace Go.Proofs.Ytnlpghjlhnhkeaa
open Go.RowKit

theorem node_any (w : World) (b : Nat) (P T : List Int) (i : Nat) (hi : i < T.length) (h : Tab w b P T) (x : Int) (hx : (nodesTo P T T.length)[i]? = some x) :
    Calls Try.prog 17 #[.pointer (some ⟨b, 0, none⟩), .int .i64 i] w fun e w' => e = .returned (.int .i64 x) ∧ TabF w' b P T ∧ Turns [b] w w' := by
  have HF := Lib.hid (found_any w b P T h)
  have HH := Lib.hid (has_b w b P T i true (decide_eq_true (by omega)) h)
  have HX := Lib.hid hx
  clear h hx
  go_enter Try.func17, Try.ntmps17
  go_wp2_with fail
  refine HH.out.mono ?_
  rintro en w' ⟨rfl, rfl⟩
  go_wp2_with fail
  refine HF.out.mono ?_
  rintro en w' ⟨rfl, hF, hT⟩
  have HTF := Lib.hid (And.intro hF hT)
  obtain ⟨AP, cP, AT, cT, vU, vN, vS, vM, us, h1, h2, h3, h4, h5, h6, h7, h8, h9⟩ := hF.ex
  have hl : (nodesTo P T T.length).length = T.length := nodesTo_len (Nat.le_refl _)
  obtain ⟨AM, cM, rfl, _, _⟩ := rdl_form h4
  obtain ⟨b1, o1, hA, _, hc1⟩ := rdl_int h4 (by omega)
  subst hA
  have q1 := hc1 i x HX.out
  have c8 := h1.cell 6
  rw [hl] at *
  simp only [tabC] at c8
  clear hF hT h1 h2 h3 h4 h5 h6 h7 h8 h9 hc1 hl
  go_wp2
  go_ret
  exact ⟨rfl, HTF.out⟩
theorem node_any_no (w : World) (b : Nat) (P T : List Int) (i : Int) (hi : hasB T i = false) (h : Tab w b P T) :
    Calls Try.prog 17 #[.pointer (some ⟨b, 0, none⟩), .int .i64 i] w fun e w' => e = .returned (.int .i64 (-1)) ∧ w = w' := by
  have HH := Lib.hid (has_b w b P T i false hi h)
  clear h hi
  go_enter Try.func17, Try.ntmps17
  go_wp2_with fail
  refine HH.out.mono ?_
  rintro en w' ⟨rfl, rfl⟩
  go_wp2
  go_ret
  exact ⟨rfl, rfl⟩
theorem slot_any (w : World) (b : Nat) (P T : List Int) (i : Nat) (hi : i < T.length) (h : Tab w b P T) (x : Int) (hx : (slotsTo T T.length)[i]? = some x) :
    Calls Try.prog 16 #[.pointer (some ⟨b, 0, none⟩), .int .i64 i] w fun e w' => e = .returned (.int .i64 x) ∧ TabF w' b P T ∧ Turns [b] w w' := by
  have HF := Lib.hid (found_any w b P T h)
  have HH := Lib.hid (has_b w b P T i true (decide_eq_true (by omega)) h)
  have HX := Lib.hid hx
  clear h hx
  go_enter Try.func16, Try.ntmps16
  go_wp2_with fail
  refine HH.out.mono ?_
  rintro en w' ⟨rfl, rfl⟩
  go_wp2_with fail
  refine HF.out.mono ?_
  rintro en w' ⟨rfl, hF, hT⟩
  have HTF := Lib.hid (And.intro hF hT)
  obtain ⟨AP, cP, AT, cT, vU, vN, vS, vM, us, h1, h2, h3, h4, h5, h6, h7, h8, h9⟩ := hF.ex
  have hl : (slotsTo T T.length).length = T.length := slotsTo_len _ _
  obtain ⟨AM, cM, rfl, _, _⟩ := rdl_form h5
  obtain ⟨b1, o1, hA, _, hc1⟩ := rdl_int h5 (by omega)
  subst hA
  have q1 := hc1 i x HX.out
  have c8 := h1.cell 7
  rw [hl] at *
  simp only [tabC] at c8
  clear hF hT h1 h2 h3 h4 h5 h6 h7 h8 h9 hc1 hl
  go_wp2
  go_ret
  exact ⟨rfl, HTF.out⟩
theorem slot_any_no (w : World) (b : Nat) (P T : List Int) (i : Int) (hi : hasB T i = false) (h : Tab w b P T) :
    Calls Try.prog 16 #[.pointer (some ⟨b, 0, none⟩), .int .i64 i] w fun e w' => e = .returned (.int .i64 (-1)) ∧ w = w' := by
  have HH := Lib.hid (has_b w b P T i false hi h)
  clear h hi
  go_enter Try.func16, Try.ntmps16
  go_wp2_with fail
  refine HH.out.mono ?_
  rintro en w' ⟨rfl, rfl⟩
  go_wp2
  go_ret
  exact ⟨rfl, rfl⟩
end Go.Proofs.Ytnlpghjlhnhkeaa
