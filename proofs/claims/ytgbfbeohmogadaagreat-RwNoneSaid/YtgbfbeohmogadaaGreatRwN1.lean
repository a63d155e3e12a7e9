/- A lock of readers and writers that nobody made: nil, or the zero one. -/
import Derived.Test.YtgbfbeohmogadaaGreatRows
import Derived.Test.YtgbfbeohmogadaaGreatTurn
import Derived.Tactics
import Derived.RegionCalls
namespace Go.Proofs.YtgbfbeohmogadaaGreat
open Go.RowKit

def lockV (x : Option Nat) : Value := .pointer (x.map fun b => ⟨b, 0, none⟩)
def LkZ (w : World) (x : Option Nat) : Prop := ∀ b, x = some b → Blk w b 28 #[.int .i64 0, .nilIface]
theorem LkZ.none (w : World) : LkZ w none := fun _ h => by cases h
theorem LkZ.below {w w' : World} {x : Option Nat} (h : LkZ w x) (k : Below w.heap.size w w') : LkZ w' x := fun b hb => (h b hb).below k (h b hb).lt
theorem madeL (w : World) (x : Option Nat) (h : LkZ w x) : Calls Tryz.prog 48 #[lockV x] w fun e w' => e = .returned (.bool false) ∧ w = w' := by
  cases x with
  | none =>
    unfold lockV
    simp only [Option.map_none]
    clear h
    go_enter Tryz.func48, Tryz.ntmps48
    go_wp2
    go_ret
    exact ⟨rfl, rfl⟩
  | some b =>
    have c0 := (h b rfl).cell 0
    simp only [List.getElem?_toArray, List.getElem?_cons_zero] at c0
    have c0' : w.cell? ⟨b, 0, none⟩ = some (.int .i64 0) := (h b rfl).cell 0
    clear h c0
    unfold lockV
    simp only [Option.map_some]
    go_enter Tryz.func48, Tryz.ntmps48
    go_wp2
    go_ret
    exact ⟨rfl, rfl⟩
theorem modeL (w : World) (x : Option Nat)  (h : LkZ w x) : Calls Tryz.prog 10 #[lockV x] w fun e w' => e = .returned (.int .i64 0) ∧ w = w' := by
  have HT := Lib.hid (madeL w x h)
  obtain ⟨v, hv⟩ : ∃ v, v = lockV x := ⟨_, rfl⟩
  rw [← hv] at HT ⊢
  clear h hv
  go_enter Tryz.func10, Tryz.ntmps10
  go_wp2_with fail
  refine HT.out.mono ?_
  rintro en w' ⟨rfl, rfl⟩
  go_wp2
  go_ret
  exact ⟨rfl, rfl⟩
theorem threadsL (w : World) (x : Option Nat)  (h : LkZ w x) : Calls Tryz.prog 11 #[lockV x] w fun e w' => e = .returned (.int .i64 0) ∧ w = w' := by
  have HT := Lib.hid (madeL w x h)
  obtain ⟨v, hv⟩ : ∃ v, v = lockV x := ⟨_, rfl⟩
  rw [← hv] at HT ⊢
  clear h hv
  go_enter Tryz.func11, Tryz.ntmps11
  go_wp2_with fail
  refine HT.out.mono ?_
  rintro en w' ⟨rfl, rfl⟩
  go_wp2
  go_ret
  exact ⟨rfl, rfl⟩
theorem ownL (w : World) (x : Option Nat) (i : Int) (h : LkZ w x) : Calls Tryz.prog 13 #[lockV x, .int .i64 i] w fun e w' => e = .returned (.int .i64 0) ∧ w = w' := by
  have HT := Lib.hid (madeL w x h)
  obtain ⟨v, hv⟩ : ∃ v, v = lockV x := ⟨_, rfl⟩
  rw [← hv] at HT ⊢
  clear h hv
  go_enter Tryz.func13, Tryz.ntmps13
  go_wp2_with fail
  refine HT.out.mono ?_
  rintro en w' ⟨rfl, rfl⟩
  go_wp2
  go_ret
  exact ⟨rfl, rfl⟩
theorem stepL (w : World) (x : Option Nat) (i : Int) (h : LkZ w x) : Calls Tryz.prog 45 #[lockV x, .int .i64 i] w fun e w' => e = .returned (.bool false) ∧ w = w' := by
  have HT := Lib.hid (madeL w x h)
  obtain ⟨v, hv⟩ : ∃ v, v = lockV x := ⟨_, rfl⟩
  rw [← hv] at HT ⊢
  clear h hv
  go_enter Tryz.func45, Tryz.ntmps45
  go_wp2_with fail
  refine HT.out.mono ?_
  rintro en w' ⟨rfl, rfl⟩
  go_wp2
  go_ret
  exact ⟨rfl, rfl⟩
theorem leaveL (w : World) (x : Option Nat) (i : Int) (h : LkZ w x) : Calls Tryz.prog 47 #[lockV x, .int .i64 i] w fun e w' => e = .returned (.bool false) ∧ w = w' := by
  have HT := Lib.hid (madeL w x h)
  obtain ⟨v, hv⟩ : ∃ v, v = lockV x := ⟨_, rfl⟩
  rw [← hv] at HT ⊢
  clear h hv
  go_enter Tryz.func47, Tryz.ntmps47
  go_wp2_with fail
  refine HT.out.mono ?_
  rintro en w' ⟨rfl, rfl⟩
  go_wp2
  go_ret
  exact ⟨rfl, rfl⟩
theorem askL (w : World) (x : Option Nat) (i : Int) (r : Bool) (h : LkZ w x) : Calls Tryz.prog 46 #[lockV x, .int .i64 i, .bool r] w fun e w' => e = .returned (.bool false) ∧ w = w' := by
  have HT := Lib.hid (madeL w x h)
  obtain ⟨v, hv⟩ : ∃ v, v = lockV x := ⟨_, rfl⟩
  rw [← hv] at HT ⊢
  clear h hv
  go_enter Tryz.func46, Tryz.ntmps46
  go_wp2_with fail
  refine HT.out.mono ?_
  rintro en w' ⟨rfl, rfl⟩
  go_wp2
  go_ret
  exact ⟨rfl, rfl⟩
theorem spotL (w : World) (x : Option Nat) (i : Int) (h : LkZ w x) : Calls Tryz.prog 12 #[lockV x, .int .i64 i] w fun e w' => e = .returned (.agg #[.int .i64 0, .int .i64 0, .int .i64 0, .int .i64 0]) ∧ Below w.heap.size w w' := by
  have hw := (Below.refl w.heap.size w).alloc (Nat.le_refl _) (.cells #[.int .i64 0, .int .i64 0, .int .i64 0, .int .i64 0] 33)
  have HT := Lib.hid (madeL _ x (h.below hw))
  have HW := Lib.hid hw
  obtain ⟨v, hv⟩ : ∃ v, v = lockV x := ⟨_, rfl⟩
  rw [← hv] at HT ⊢
  clear h hv hw
  go_enter Tryz.func12, Tryz.ntmps12
  go_wp2_with fail
  refine HT.out.mono ?_
  rintro en w' ⟨rfl, rfl⟩
  go_wp2
  exact bodyPost_ret (results_cell_row (by rfl) _ _ w.heap.size 33 _ (0, 0) _ (by rfl) (heap_alloc_new w _) Tryz.underlying33 rfl (by kernel_rfl)) rfl ⟨rfl, HW.out⟩
set_option maxRecDepth 100000 in
theorem do39 (w : World) (x : Option Nat) (k i : Int) (h : LkZ w x) : Calls Tryz.prog 9 #[lockV x, .agg #[.int .i64 k, .int .i64 i]] w fun e w' => e = .returned (.bool false) ∧ Below w.heap.size w w' := by
  have hw := (Below.refl w.heap.size w).alloc (Nat.le_refl _) (.cells #[.int .i64 k, .int .i64 i] 23)
  have S := Lib.hid (stepL _ x i (h.below hw))
  have A1 := Lib.hid (askL _ x i false (h.below hw))
  have A2 := Lib.hid (leaveL _ x i (h.below hw))
  have A3 := Lib.hid (askL _ x i true (h.below hw))
  have HW := Lib.hid hw
  obtain ⟨v, hv⟩ : ∃ v, v = lockV x := ⟨_, rfl⟩
  rw [← hv] at S A1 A2 A3 ⊢
  clear h hv hw
  by_cases e0 : k = 0
  · subst e0
    go_enter Tryz.func9, Tryz.ntmps9
    go_wp2_with fail
    refine S.out.mono ?_
    rintro en w' ⟨rfl, rfl⟩
    go_wp2
    go_ret
    exact ⟨rfl, HW.out⟩
  by_cases e1 : k = 1
  · subst e1
    go_enter Tryz.func9, Tryz.ntmps9
    go_wp2_with fail
    refine A1.out.mono ?_
    rintro en w' ⟨rfl, rfl⟩
    go_wp2
    go_ret
    exact ⟨rfl, HW.out⟩
  by_cases e2 : k = 2
  · subst e2
    go_enter Tryz.func9, Tryz.ntmps9
    go_wp2_with fail
    refine A2.out.mono ?_
    rintro en w' ⟨rfl, rfl⟩
    go_wp2
    go_ret
    exact ⟨rfl, HW.out⟩
  by_cases e3 : k = 3
  · subst e3
    go_enter Tryz.func9, Tryz.ntmps9
    go_wp2_with fail
    refine A3.out.mono ?_
    rintro en w' ⟨rfl, rfl⟩
    go_wp2
    go_ret
    exact ⟨rfl, HW.out⟩
  have t0 : (k == 0) = false := by simpa using e0
  have t1 : (k == 1) = false := by simpa using e1
  have t2 : (k == 2) = false := by simpa using e2
  have t3 : (k == 3) = false := by simpa using e3
  go_enter Tryz.func9, Tryz.ntmps9
  go_wp2
  go_ret
  exact ⟨rfl, HW.out⟩
end Go.Proofs.YtgbfbeohmogadaaGreat
