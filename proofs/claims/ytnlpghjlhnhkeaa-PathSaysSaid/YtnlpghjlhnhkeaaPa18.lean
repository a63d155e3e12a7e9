/- Layer 7: awake. -/
import Derived.Test.YtnlpghjlhnhkeaaPa17
import Derived.Test.YtnlpghjlhnhkeaaPa14
import Derived.Test.YtnlpghjlhnhkeaaSameI
namespace Go.Proofs.Ytnlpghjlhnhkeaa
open Go.RowKit

theorem rdl_lit {α : Type} {enc : α → List Value} {sz : Nat} (hs : ∀ x, (enc x).length = sz) (w : World) (t : TypeId) (cs : Array Value) (l : List α) (n : Nat) (hn : n = l.length) (hc : cs.toList = l.flatMap enc) {g : Nat} (hg : Blk w g t cs) (h63 : l.length ≤ 1000) : RdL w (.slice (some ⟨g, 0, none⟩) n n) sz enc l := by
  subst hn
  refine ⟨some ⟨g, 0, none⟩, l.length, rfl, Nat.le_refl _, by omega, fun _ => ⟨g, 0, rfl, hg.lt, fun i x hx j u hu => ?_⟩⟩
  rw [hg.cell]
  have := getElem?_flatMap enc sz hs l i x j u hx hu
  rw [← hc] at this
  simpa using this
theorem tells_call {f : FuncId} {args : Array Value} {w w0 : World} {b : Nat} {P T : List Int} {x y : Int} (hc : Calls Try.prog f args w (Tells w b P T (.int .i64 x))) (hv : x = y) (hb : Below w0.heap.size w0 w) (hlo : w0.heap.size ≤ b) :
    Calls Try.prog f args w fun e w' => e = .returned (.int .i64 y) ∧ Tab w' b P T ∧ Below w0.heap.size w0 w' := by
  subst hv
  exact hc.mono fun e w' ⟨h1, h2, h3⟩ => ⟨h1, h2, hb.trans (h3.below (by simpa using hlo) hb.size)⟩
set_option maxRecDepth 100000 in
theorem two07 (w : World) : Calls Try.prog 39 #[] w fun e w' => ∃ vP vT, e = .returned (.agg #[vP, vT]) ∧ RdL w' vP 1 encI [-1, 0, 0] ∧ RdL w' vT 1 encI [1, 1, 2, 2] ∧ Below w.heap.size w w' := by
  go_enter Try.func39, Try.ntmps39
  go_wp2
  refine bodyPost_ret (v := .agg #[.slice (some ⟨w.heap.size + 1, 0, none⟩) 3 3, .slice (some ⟨w.heap.size + 1 + 1, 0, none⟩) 4 4]) (by simp [results, Try.results39, go_sem]) rfl ⟨_, _, rfl, ?_, ?_, ?_⟩
  · exact rdl_lit encI_len _ 3 #[.int .i64 (-1), .int .i64 0, .int .i64 0] [-1, 0, 0] 3 rfl rfl ((Blk.new' _ _ _ (by simp)).alloc _) (by decide)
  · exact rdl_lit encI_len _ 3 #[.int .i64 1, .int .i64 1, .int .i64 2, .int .i64 2] [1, 1, 2, 2] 4 rfl rfl (Blk.new' _ _ _ (by simp)) (by decide)
  · exact (((Below.refl _ _).alloc (Nat.le_refl _) _).alloc (by simp <;> omega) _).alloc (by simp <;> omega) _
abbrev P07 : List Int := [-1, 0, 0]
abbrev T07 : List Int := [1, 1, 2, 2]
set_option maxRecDepth 100000 in
set_option maxHeartbeats 4000000 in
theorem awake07 (w : World) : Calls Try.prog 10 #[] w fun e w' => e = .returned (.bool true) ∧ Below w.heap.size w w' := by
  go_enter Try.func10, Try.ntmps10
  go_wp2_with fail
  refine (two07 _).mono ?_
  rintro en w1 ⟨vP, vT, rfl, hP, hT, b1⟩
  have HN := Lib.hid (new_yes w1 vP vT _ _ hP hT (by decide +kernel))
  have B1 := Lib.hid b1
  clear hP hT b1
  go_wp2_with fail
  refine HN.out.mono ?_
  rintro en w2 ⟨b, rfl, hlo, h0, b2⟩
  have hlo2 : w.heap.size ≤ b := Nat.le_trans B1.out.size hlo
  have B2 := Lib.hid (B1.out.trans (b2.mono B1.out.size))
  have T2 := Lib.hid (show Tab w2 b [-1, 0, 0] [1, 1, 2, 2] from ⟨by decide +kernel, .inl h0⟩)
  clear hlo h0 b2
  have HX := Lib.hid (new_no w2 (.slice none 0 0) (.slice none 0 0) [] [] RdL.nil RdL.nil (by decide +kernel))
  rw [show chkT [] [] = 8 from by decide +kernel] at HX
  go_wp2_with fail
  refine HX.out.mono ?_
  rintro en w3 ⟨rfl, b3⟩
  have B3 := Lib.hid (B2.out.trans (b3.mono B2.out.size))
  have T3 := Lib.hid (T2.out.below b3)
  clear b3
  go_wp2_with fail
  refine (tells_call (farT _ b P07 T07 0 1 T3.out) (y := 0) (by decide +kernel) B3.out hlo2).mono ?_
  rintro en w4 ⟨rfl, t4, b4⟩
  have H4 := Lib.hid (And.intro t4 b4)
  clear t4 b4
  go_wp2_with fail
  refine (tells_call (farT _ b P07 T07 0 2 H4.out.1) (y := 1) (by decide +kernel) H4.out.2 hlo2).mono ?_
  rintro en w5 ⟨rfl, t5, b5⟩
  have H5 := Lib.hid (And.intro t5 b5)
  clear t5 b5
  go_wp2_with fail
  refine (tells_call (meetT _ b P07 T07 3 0 H5.out.1) (y := 0) (by decide +kernel) H5.out.2 hlo2).mono ?_
  rintro en w6 ⟨rfl, t6, b6⟩
  have H6 := Lib.hid (And.intro t6 b6)
  clear t6 b6
  go_wp2_with fail
  refine (tells_call (nodeT _ b P07 T07 3 H6.out.1) (y := 1) (by decide +kernel) H6.out.2 hlo2).mono ?_
  rintro en w7 ⟨rfl, t7, b7⟩
  have H7 := Lib.hid (And.intro t7 b7)
  clear t7 b7
  go_wp2_with fail
  refine (tells_call (slotT _ b P07 T07 3 H7.out.1) (y := 1) (by decide +kernel) H7.out.2 hlo2).mono ?_
  rintro en w8 ⟨rfl, t8, b8⟩
  have H8 := Lib.hid (And.intro t8 b8)
  clear t8 b8
  go_wp2_with fail
  refine (tells_call (matesT _ b P07 T07 1 H8.out.1) (y := 2) (by decide +kernel) H8.out.2 hlo2).mono ?_
  rintro en w9 ⟨rfl, t9, b9⟩
  have H9 := Lib.hid (And.intro t9 b9)
  clear t9 b9
  have HNN := Lib.hid (nodes_any w9 b P07 T07 H9.out.1)
  rw [show (leavesL P07).length = 2 from by decide +kernel] at HNN
  go_wp2_with fail
  refine HNN.out.mono ?_
  rintro en w10 ⟨rfl, t10, u10⟩
  have H10 := Lib.hid (And.intro t10.tab (H9.out.2.trans (u10.below (by simpa using hlo2) H9.out.2.size)))
  clear t10 u10
  go_wp2_with fail
  refine (threads_any _ b P07 T07 H10.out.1).mono ?_
  rintro en w11 ⟨rfl, rfl⟩
  go_wp2_with fail
  refine (upT _ b P07 T07 2 H10.out.1).mono ?_
  rintro en w12 ⟨v, rfl, o12, t12, u12⟩
  rw [show upI P07 T07 2 = [2, 0] from by decide +kernel] at o12
  have H12 := Lib.hid (And.intro t12 (H10.out.2.trans (u12.below (by simpa using hlo2) H10.out.2.size)))
  have R12 := Lib.hid (own_rdl o12 (by decide))
  obtain ⟨A12, c12, rfl⟩ := own_form o12
  clear o12 t12 u12
  have HS := Lib.hid (sameInt_any (w12.alloc (.cells #[.int .i64 2, .int .i64 0] 3)) _ (.slice (some ⟨w12.heap.size, 0, none⟩) 2 2) [2, 0] [2, 0] (R12.out.alloc _) (rdl_lit encI_len _ 3 #[.int .i64 2, .int .i64 0] [2, 0] 2 rfl rfl (Blk.new _ _ _) (by decide)))
  rw [show decide (([2, 0] : List Int) = [2, 0]) = true from by decide] at HS
  go_wp2_with fail
  refine HS.out.mono ?_
  rintro en w13 ⟨rfl, q13⟩
  have b13 : Below w12.heap.size w12 w13 := ((Below.refl _ _).alloc (Nat.le_refl _) _).trans (q13.below _)
  have H13 := Lib.hid (And.intro (H12.out.1.below b13) (H12.out.2.trans (b13.mono H12.out.2.size)))
  clear q13 b13
  go_wp2_with fail
  refine (tells_call (nodeT _ b P07 T07 4 H13.out.1) (y := (-1)) (by decide +kernel) H13.out.2 hlo2).mono ?_
  rintro en w14 ⟨rfl, t14, b14⟩
  have H14 := Lib.hid b14
  clear t14 b14
  go_wp2
  go_ret
  exact ⟨rfl, H14.out⟩
end Go.Proofs.Ytnlpghjlhnhkeaa
