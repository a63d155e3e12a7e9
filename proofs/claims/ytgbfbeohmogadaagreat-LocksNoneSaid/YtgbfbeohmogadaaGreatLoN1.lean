/- A lock of any kind that nobody made: nil, or the zero one. -/
import Derived.Test.YtgbfbeohmogadaaGreatRows
import Derived.Test.YtgbfbeohmogadaaGreatTurn
import Derived.Tactics
import Derived.RegionCalls
namespace Go.Proofs.YtgbfbeohmogadaaGreat
open Go.RowKit

def lockV (x : Option Nat) : Value := .pointer (x.map fun b => ⟨b, 0, none⟩)
def LkZ (w : World) (x : Option Nat) : Prop := ∀ b, x = some b → Blk w b 45 #[.int .i64 0, .int .i64 0, .nilIface]
theorem LkZ.none (w : World) : LkZ w none := fun _ h => by cases h
theorem LkZ.below {w w' : World} {x : Option Nat} (h : LkZ w x) (k : Below w.heap.size w w') : LkZ w' x := fun b hb => (h b hb).below k (h b hb).lt
theorem threadsK (w : World) (x : Option Nat) (h : LkZ w x) : Calls Tryz.prog 21 #[lockV x] w fun e w' => e = .returned (.int .i64 0) ∧ w = w' := by
  cases x with
  | none =>
    unfold lockV
    simp only [Option.map_none]
    clear h
    go_enter Tryz.func21, Tryz.ntmps21
    go_wp2
    go_ret
    exact ⟨rfl, rfl⟩
  | some b =>
    have c0' : w.cell? ⟨b, 1, none⟩ = some (.int .i64 0) := (h b rfl).cell 1
    clear h
    unfold lockV
    simp only [Option.map_some]
    go_enter Tryz.func21, Tryz.ntmps21
    go_wp2
    go_ret
    exact ⟨rfl, rfl⟩
theorem hasK (w : World) (x : Option Nat) (i : Int) (h : LkZ w x) : Calls Tryz.prog 59 #[lockV x, .int .i64 i] w fun e w' => e = .returned (.bool false) ∧ w = w' := by
  have HT := Lib.hid (threadsK w x h)
  obtain ⟨v, hv⟩ : ∃ v, v = lockV x := ⟨_, rfl⟩
  rw [← hv] at HT ⊢
  clear h hv
  go_enter Tryz.func59, Tryz.ntmps59
  by_cases h0 : 0 ≤ i
  · have h1 : decide (i < 0) = false := decide_eq_false (by omega)
    go_wp2_with fail
    refine HT.out.mono ?_
    rintro en w' ⟨rfl, rfl⟩
    go_wp2
    go_ret
    exact ⟨ret_bool (by simp), rfl⟩
  · go_wp2
    go_ret
    exact ⟨rfl, rfl⟩
theorem stepL (w : World) (x : Option Nat) (i : Int) (h : LkZ w x) : Calls Tryz.prog 55 #[lockV x, .int .i64 i] w fun e w' => e = .returned (.bool false) ∧ w = w' := by
  have HT := Lib.hid (hasK w x i h)
  obtain ⟨v, hv⟩ : ∃ v, v = lockV x := ⟨_, rfl⟩
  rw [← hv] at HT ⊢
  clear h hv
  go_enter Tryz.func55, Tryz.ntmps55
  go_wp2_with fail
  refine HT.out.mono ?_
  rintro en w' ⟨rfl, rfl⟩
  go_wp2
  go_ret
  exact ⟨rfl, rfl⟩
theorem leaveL (w : World) (x : Option Nat) (i : Int) (h : LkZ w x) : Calls Tryz.prog 56 #[lockV x, .int .i64 i] w fun e w' => e = .returned (.bool false) ∧ w = w' := by
  have HT := Lib.hid (hasK w x i h)
  obtain ⟨v, hv⟩ : ∃ v, v = lockV x := ⟨_, rfl⟩
  rw [← hv] at HT ⊢
  clear h hv
  go_enter Tryz.func56, Tryz.ntmps56
  go_wp2_with fail
  refine HT.out.mono ?_
  rintro en w' ⟨rfl, rfl⟩
  go_wp2
  go_ret
  exact ⟨rfl, rfl⟩
theorem askL (w : World) (x : Option Nat) (i : Int) (r : Bool) (h : LkZ w x) : Calls Tryz.prog 54 #[lockV x, .int .i64 i, .bool r] w fun e w' => e = .returned (.bool false) ∧ w = w' := by
  have HT := Lib.hid (hasK w x i h)
  obtain ⟨v, hv⟩ : ∃ v, v = lockV x := ⟨_, rfl⟩
  rw [← hv] at HT ⊢
  clear h hv
  go_enter Tryz.func54, Tryz.ntmps54
  go_wp2_with fail
  refine HT.out.mono ?_
  rintro en w' ⟨rfl, rfl⟩
  go_wp2
  go_ret
  exact ⟨rfl, rfl⟩
theorem countL (w : World) (x : Option Nat) (i : Int) (h : LkZ w x) : Calls Tryz.prog 25 #[lockV x, .int .i64 i] w fun e w' => e = .returned (.int .i64 0) ∧ w = w' := by
  have HT := Lib.hid (hasK w x i h)
  obtain ⟨v, hv⟩ : ∃ v, v = lockV x := ⟨_, rfl⟩
  rw [← hv] at HT ⊢
  clear h hv
  go_enter Tryz.func25, Tryz.ntmps25
  go_wp2_with fail
  refine HT.out.mono ?_
  rintro en w' ⟨rfl, rfl⟩
  go_wp2
  go_ret
  exact ⟨rfl, rfl⟩
theorem spotL (w : World) (x : Option Nat) (i : Int) (h : LkZ w x) : Calls Tryz.prog 22 #[lockV x, .int .i64 i] w fun e w' => e = .returned (.agg #[.int .i64 0, .int .i64 0, .int .i64 0, .int .i64 0]) ∧ Below w.heap.size w w' := by
  have hw := (Below.refl w.heap.size w).alloc (Nat.le_refl _) (.cells #[.int .i64 0, .int .i64 0, .int .i64 0, .int .i64 0] 33)
  have HT := Lib.hid (hasK _ x i (h.below hw))
  have HW := Lib.hid hw
  obtain ⟨v, hv⟩ : ∃ v, v = lockV x := ⟨_, rfl⟩
  rw [← hv] at HT ⊢
  clear h hv hw
  go_enter Tryz.func22, Tryz.ntmps22
  go_wp2_with fail
  refine HT.out.mono ?_
  rintro en w' ⟨rfl, rfl⟩
  go_wp2
  exact bodyPost_ret (results_cell_row (by rfl) _ _ w.heap.size 33 _ (0, 0) _ (by rfl) (heap_alloc_new w _) Tryz.underlying33 rfl (by kernel_rfl)) rfl ⟨rfl, HW.out⟩
theorem field_pc (a b c d : Int) (w : World) : (Instr.field 33 (.agg #[.int .i64 a, .int .i64 b, .int .i64 c, .int .i64 d]) 0).run Tryz.prog w = .ok (.int .i64 a) w := by kernel_rfl
theorem stateL (w : World) (x : Option Nat) (i : Int) (h : LkZ w x) : Calls Tryz.prog 23 #[lockV x, .int .i64 i] w fun e w' => e = .returned (.int .i64 0) ∧ Below w.heap.size w w' := by
  have hfield := field_pc
  have HT := Lib.hid (spotL w x i h)
  obtain ⟨v, hv⟩ : ∃ v, v = lockV x := ⟨_, rfl⟩
  rw [← hv] at HT ⊢
  clear h hv
  go_enter Tryz.func23, Tryz.ntmps23
  go_wp2_with fail
  refine HT.out.mono ?_
  rintro en w' ⟨rfl, b1⟩
  have B1 := Lib.hid b1
  clear b1
  go_wp2
  go_ret
  exact ⟨rfl, B1.out⟩
theorem readsL (w : World) (x : Option Nat) (i : Int) (h : LkZ w x) : Calls Tryz.prog 24 #[lockV x, .int .i64 i] w fun e w' => e = .returned (.bool false) ∧ Below w.heap.size w w' := by
  have HT := Lib.hid (stateL w x i h)
  obtain ⟨v, hv⟩ : ∃ v, v = lockV x := ⟨_, rfl⟩
  rw [← hv] at HT ⊢
  clear h hv
  go_enter Tryz.func24, Tryz.ntmps24
  go_wp2_with fail
  refine HT.out.mono ?_
  rintro en w' ⟨rfl, b1⟩
  have B1 := Lib.hid b1
  clear b1
  go_wp2
  go_ret
  exact ⟨rfl, B1.out⟩
set_option maxRecDepth 100000 in
theorem do40 (w : World) (x : Option Nat) (k i : Int) (h : LkZ w x) : Calls Tryz.prog 20 #[lockV x, .agg #[.int .i64 k, .int .i64 i]] w fun e w' => e = .returned (.bool false) ∧ Below w.heap.size w w' := by
  have hw := (Below.refl w.heap.size w).alloc (Nat.le_refl _) (.cells #[.int .i64 k, .int .i64 i] 23)
  have S := Lib.hid (stepL _ x i (h.below hw))
  have A1 := Lib.hid (askL _ x i false (h.below hw))
  have A2 := Lib.hid (leaveL _ x i (h.below hw))
  have A3 := Lib.hid (askL _ x i true (h.below hw))
  have HW := Lib.hid hw
  obtain ⟨v, hv⟩ : ∃ v, v = lockV x := ⟨_, rfl⟩
  rw [← hv] at S A1 A2 A3 ⊢
  clear h hv hw
  by_cases e0 : k = 0
  · subst e0
    go_enter Tryz.func20, Tryz.ntmps20
    go_wp2_with fail
    refine S.out.mono ?_
    rintro en w' ⟨rfl, rfl⟩
    go_wp2
    go_ret
    exact ⟨rfl, HW.out⟩
  by_cases e1 : k = 1
  · subst e1
    go_enter Tryz.func20, Tryz.ntmps20
    go_wp2_with fail
    refine A1.out.mono ?_
    rintro en w' ⟨rfl, rfl⟩
    go_wp2
    go_ret
    exact ⟨rfl, HW.out⟩
  by_cases e2 : k = 2
  · subst e2
    go_enter Tryz.func20, Tryz.ntmps20
    go_wp2_with fail
    refine A2.out.mono ?_
    rintro en w' ⟨rfl, rfl⟩
    go_wp2
    go_ret
    exact ⟨rfl, HW.out⟩
  by_cases e3 : k = 3
  · subst e3
    go_enter Tryz.func20, Tryz.ntmps20
    go_wp2_with fail
    refine A3.out.mono ?_
    rintro en w' ⟨rfl, rfl⟩
    go_wp2
    go_ret
    exact ⟨rfl, HW.out⟩
  have t0 : (k == 0) = false := by simpa using e0
  have t1 : (k == 1) = false := by simpa using e1
  have t2 : (k == 2) = false := by simpa using e2
  have t3 : (k == 3) = false := by simpa using e3
  go_enter Tryz.func20, Tryz.ntmps20
  go_wp2
  go_ret
  exact ⟨rfl, HW.out⟩
end Go.Proofs.YtgbfbeohmogadaaGreat
