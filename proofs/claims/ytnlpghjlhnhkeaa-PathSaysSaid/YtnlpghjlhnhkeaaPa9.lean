/- path.Table's methods. -/
import Derived.Test.YtnlpghjlhnhkeaaPa8
namespace Go.Proofs.Ytnlpghjlhnhkeaa
open Go.RowKit

/-- a table, found or not -/
def Tab (w : World) (b : Nat) (P T : List Int) : Prop := chkT P T = 0 ∧ (Tab0 w b P T ∨ TabF w b P T)
theorem TabF.tab {w : World} {b : Nat} {P T : List Int} (h : TabF w b P T) : Tab w b P T := ⟨h.ok, .inr h⟩
theorem Tab.lt {w : World} {b : Nat} {P T : List Int} (h : Tab w b P T) : b < w.heap.size := by
  rcases h.2 with ⟨_, _, _, _, h1, _⟩ | ⟨_, _, _, _, _, _, _, _, _, _, h1, _⟩ <;> exact h1.lt
theorem Tab.below {w w' : World} {b : Nat} {P T : List Int} (h : Tab w b P T) (k : Below w.heap.size w w') : Tab w' b P T := by
  refine ⟨h.1, ?_⟩
  rcases h.2 with h0 | h0
  · obtain ⟨AP, cP, AT, cT, h1, h2, h3, h4, h5⟩ := h0.ex
    exact .inl ⟨AP, cP, AT, cT, h1.below k h1.lt, h2.below k (Nat.le_refl _), h3.below k (Nat.le_refl _), h4, h5⟩
  · exact .inr (h0.below k)
theorem found_any (w : World) (b : Nat) (P T : List Int) (h : Tab w b P T) :
    Calls Try.prog 41 #[.pointer (some ⟨b, 0, none⟩)] w fun e w' => e = .returned (.pointer (some ⟨b, 0, none⟩)) ∧ TabF w' b P T ∧ Turns [b] w w' := by
  rcases h.2 with h0 | h0
  · exact found_first w b P T h.1 h0
  · exact (found_again w b P T h0).mono fun _ _ ⟨he, hw⟩ => ⟨he, by rw [← hw]; exact h0, by rw [← hw]; exact Turns.refl _ _⟩
/-- the threads' slice, found or not -/
theorem Tab.thr {w : World} {b : Nat} {P T : List Int} (h : Tab w b P T) : ∃ AT cT, w.cell? ⟨b, 1, none⟩ = some (.slice AT T.length cT) := by
  rcases h.2 with h0 | h0
  · obtain ⟨AP, cP, AT, cT, h1, _⟩ := h0.ex
    exact ⟨AT, cT, h1.cell 1⟩
  · obtain ⟨AP, cP, AT, cT, vU, vN, vS, vM, us, h1, _⟩ := h0.ex
    exact ⟨AT, cT, h1.cell 1⟩
theorem threads_any (w : World) (b : Nat) (P T : List Int) (h : Tab w b P T) :
    Calls Try.prog 11 #[.pointer (some ⟨b, 0, none⟩)] w fun e w' => e = .returned (.int .i64 (T.length : Nat)) ∧ w = w' := by
  obtain ⟨AT, cT, c1⟩ := h.thr
  clear h
  go_enter Try.func11, Try.ntmps11
  go_wp2
  go_ret
  exact ⟨rfl, rfl⟩
def hasB (T : List Int) (i : Int) : Bool := decide (0 ≤ i ∧ i < T.length)
theorem has_b (w : World) (b : Nat) (P T : List Int) (i : Int) (r : Bool) (hr : hasB T i = r) (h : Tab w b P T) :
    Calls Try.prog 40 #[.pointer (some ⟨b, 0, none⟩), .int .i64 i] w fun e w' => e = .returned (.bool r) ∧ w = w' := by
  have HT := Lib.hid (threads_any w b P T h)
  have HR := Lib.hid hr
  clear h hr
  go_enter Try.func40, Try.ntmps40
  by_cases h0 : 0 ≤ i
  · go_wp2_with fail
    refine HT.out.mono ?_
    rintro en w' ⟨rfl, rfl⟩
    go_wp2
    go_ret
    exact ⟨ret_bool (by rw [← HR.out]; simp [hasB, h0]), rfl⟩
  · go_wp2
    go_ret
    exact ⟨ret_bool (by rw [← HR.out]; unfold hasB; symm; exact decide_eq_false (by omega)), rfl⟩
theorem nodes_any (w : World) (b : Nat) (P T : List Int) (h : Tab w b P T) :
    Calls Try.prog 14 #[.pointer (some ⟨b, 0, none⟩)] w fun e w' => e = .returned (.int .i64 ((leavesL P).length : Nat)) ∧ TabF w' b P T ∧ Turns [b] w w' := by
  have HF := Lib.hid (found_any w b P T h)
  clear h
  go_enter Try.func14, Try.ntmps14
  go_wp2_with fail
  refine HF.out.mono ?_
  rintro en w' ⟨rfl, hF, hT⟩
  have HTF := Lib.hid (And.intro hF hT)
  obtain ⟨AP, cP, AT, cT, vU, vN, vS, vM, us, h1, h2, h3, h4, h5, h6, h7, h8, h9⟩ := hF.ex
  obtain ⟨AM, cM, rfl, _, _⟩ := rdl_form h6
  have c8 := h1.cell 8
  simp only [tabC, matesTo_len] at c8
  clear hF hT h1 h2 h3 h4 h5 h6 h7 h8 h9
  go_wp2
  go_ret
  exact ⟨rfl, HTF.out⟩
end Go.Proofs.Ytnlpghjlhnhkeaa
