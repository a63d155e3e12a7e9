/- Layer 44: awake. -/
import Derived.Test.YthgpjiebeinamaaSp11
import Derived.Test.YthgpjiebeinamaaSp12
namespace Go.Proofs.Ythgpjiebeinamaa
open Go.RowKit

theorem most_any (w : World) : Calls Try.prog 33 #[] w fun e w' => e = .returned (.int .i64 1099511627776) ∧ w = w' := by
  go_enter Try.func33, Try.ntmps33
  go_wp2
  go_ret
  exact ⟨rfl, rfl⟩
set_option maxRecDepth 100000 in
theorem two_any (w : World) : Calls Try.prog 46 #[] w fun e w' => ∃ vP vT, e = .returned (.agg #[vP, vT]) ∧ RdL w' vP 1 encI [-1, 0, 0] ∧ RdL w' vT 1 encI [1, 2] ∧ Below w.heap.size w w' := by
  go_enter Try.func46, Try.ntmps46
  go_wp2
  refine bodyPost_ret (v := .agg #[.slice (some ⟨w.heap.size + 1, 0, none⟩) 3 3, .slice (some ⟨w.heap.size + 1 + 1, 0, none⟩) 2 2]) (by simp [results, Try.results46, go_sem]) rfl ⟨_, _, rfl, ?_, ?_, ?_⟩
  · exact (rdl_lit encI_len _ _ _ [-1, 0, 0] (by simp) rfl rfl (by decide)).alloc _
  · exact rdl_lit encI_len _ _ _ [1, 2] (by simp) rfl rfl (by decide)
  · exact (((Below.refl _ _).alloc (Nat.le_refl _) _).alloc (by simp <;> omega) _).alloc (by simp <;> omega) _
theorem coh_call (w : World) (A B s g l p b : Int) (n : Nat) (h : cohI A B s g l b = n) : Calls Try.prog 29 #[.int .i64 A, .int .i64 B, .int .i64 s, .agg #[.int .i64 g, .int .i64 l, .int .i64 p, .int .i64 b]] w fun e w' => e = .returned (.int .i64 (n : Nat)) ∧ Below w.heap.size w w' := by subst h; exact coh_any w A B s g l p b
theorem ptree_call (w : World) (A B C s b : Int) (n : Nat) (h : treeI A B C s b = n) : Calls Try.prog 31 #[.int .i64 A, .int .i64 B, .int .i64 C, .int .i64 s, .int .i64 b] w fun e w' => e = .returned (.int .i64 (n : Nat)) ∧ Below w.heap.size w w' := by subst h; exact ptree_any w A B C s b
theorem each_call (w : World) (vP vT : Value) (P T : List Int) (kind g l p b k s : Int) (r : Bool) (n : Nat) (h : eachI P T kind g l b k s r = n) (hP : RdL w vP 1 encI P) (hT : RdL w vT 1 encI T) :
    Calls Try.prog 27 #[.agg #[vP, vT], .agg #[.int .i64 kind, .int .i64 g, .int .i64 l, .int .i64 p, .int .i64 b], .int .i64 k, .int .i64 s, .bool r] w fun e w' => e = .returned (.int .i64 (n : Nat)) ∧ Below w.heap.size w w' := by subst h; exact peach_any w vP vT P T kind g l p b k s r hP hT
set_option maxRecDepth 100000 in
set_option maxHeartbeats 4000000 in
theorem awake44 (w : World) : Calls Try.prog 26 #[] w fun e w' => e = .returned (.bool true) ∧ Below w.heap.size w w' := by
  have hb0 : Below w.heap.size w (w.alloc (.cells #[.int .i64 2, .int .i64 4, .int .i64 0, .int .i64 1] 63)) := (Below.refl _ _).alloc (Nat.le_refl _) _
  have HB0 := Lib.hid hb0
  have HC := Lib.hid (show ∀ i u, (#[Value.int .i64 2, .int .i64 4, .int .i64 0, .int .i64 1] : Array Value)[i]? = some u → (w.alloc (.cells #[.int .i64 2, .int .i64 4, .int .i64 0, .int .i64 1] 63)).cell? ⟨w.heap.size, i, none⟩ = some u from fun i u h => by rw [(Blk.new w 63 _).cell i]; exact h)
  clear hb0
  go_enter Try.func26, Try.ntmps26
  go_wp2_with fail
  refine (two_any _).mono ?_
  rintro en w1 ⟨vP, vT, rfl, hP, hT, b1⟩
  have R1 := Lib.hid (And.intro hP hT)
  have B1 := Lib.hid (HB0.out.trans (b1.mono HB0.out.size))
  have K1 := Lib.hid b1
  clear hP hT b1
  go_wp2_with fail
  refine (each_call _ _ _ _ _ 8 0 0 0 0 2 0 false 32 (by decide +kernel) R1.out.1 R1.out.2).mono ?_
  rintro en w2 ⟨rfl, b2⟩
  have B2 := Lib.hid (B1.out.trans (b2.mono B1.out.size))
  have K2 := Lib.hid (K1.out.trans (b2.mono K1.out.size))
  clear b2
  go_wp2_with fail
  refine (two_any _).mono ?_
  rintro en w3 ⟨vP, vT, rfl, hP, hT, b3⟩
  have R3 := Lib.hid (And.intro hP hT)
  have B3 := Lib.hid (B2.out.trans (b3.mono B2.out.size))
  have K3 := Lib.hid (K2.out.trans (b3.mono K2.out.size))
  clear hP hT b3
  go_wp2_with fail
  refine (each_call _ _ _ _ _ 8 0 0 0 0 2 0 true 0 (by decide +kernel) R3.out.1 R3.out.2).mono ?_
  rintro en w4 ⟨rfl, b4⟩
  have B4 := Lib.hid (B3.out.trans (b4.mono B3.out.size))
  have K4 := Lib.hid (K3.out.trans (b4.mono K3.out.size))
  clear b4
  have p0 := (K4.out.cell (p := ⟨w.heap.size, 0, none⟩) (show w.heap.size < _ by simp)).trans (HC.out 0 _ rfl)
  have p1 := (K4.out.cell (p := ⟨w.heap.size, 1, none⟩) (show w.heap.size < _ by simp)).trans (HC.out 1 _ rfl)
  have p2 := (K4.out.cell (p := ⟨w.heap.size, 2, none⟩) (show w.heap.size < _ by simp)).trans (HC.out 2 _ rfl)
  have p3 := (K4.out.cell (p := ⟨w.heap.size, 3, none⟩) (show w.heap.size < _ by simp)).trans (HC.out 3 _ rfl)
  go_wp2_with fail
  refine (coh_call _ _ _ _ _ _ _ _ 216 (by decide +kernel)).mono ?_
  rintro en w5 ⟨rfl, b5⟩
  have B5 := Lib.hid (B4.out.trans (b5.mono B4.out.size))
  clear b5
  go_wp2_with fail
  refine (coh_call _ _ _ _ _ _ _ _ 0 (by decide +kernel)).mono ?_
  rintro en w6 ⟨rfl, b6⟩
  have B6 := Lib.hid (B5.out.trans (b6.mono B5.out.size))
  clear b6
  go_wp2_with fail
  refine (ptree_call _ _ _ _ _ _ 44 (by decide +kernel)).mono ?_
  rintro en w7 ⟨rfl, b7⟩
  have B7 := Lib.hid (B6.out.trans (b7.mono B6.out.size))
  clear b7
  go_wp2_with fail
  refine (two_any _).mono ?_
  rintro en w8 ⟨vP, vT, rfl, hP, hT, b8⟩
  have R8 := Lib.hid (And.intro hP hT)
  have B8 := Lib.hid (B7.out.trans (b8.mono B7.out.size))
  clear hP hT b8
  go_wp2_with fail
  refine (each_call _ _ _ _ _ 12 0 0 0 0 1 3 true 23 (by decide +kernel) R8.out.1 R8.out.2).mono ?_
  rintro en w9 ⟨rfl, b9⟩
  have B9 := Lib.hid (B8.out.trans (b9.mono B8.out.size))
  clear b9
  go_wp2_with fail
  refine (ptree_call _ _ _ _ _ _ 1099511627776 (by decide +kernel)).mono ?_
  rintro en w10 ⟨rfl, b10⟩
  have B10 := Lib.hid (B9.out.trans (b10.mono B9.out.size))
  clear b10
  go_wp2_with (go_at_call 33; refine (most_any _).mono ?_; rintro e w' ⟨rfl, rfl⟩)
  go_ret
  exact ⟨rfl, B10.out⟩
end Go.Proofs.Ythgpjiebeinamaa
