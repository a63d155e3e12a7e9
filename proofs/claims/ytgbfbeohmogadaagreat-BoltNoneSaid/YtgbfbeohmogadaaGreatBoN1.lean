/- A bolt that nobody made: nil, or the zero one. -/
import Derived.Test.YtgbfbeohmogadaaGreatRows
import Derived.Test.YtgbfbeohmogadaaGreatTurn
import Derived.Tactics
import Derived.RegionCalls
namespace Go.Proofs.YtgbfbeohmogadaaGreat
open Go.RowKit

def boltV (x : Option Nat) : Value := .pointer (x.map fun b => ⟨b, 0, none⟩)
def BtZ (w : World) (x : Option Nat) : Prop := ∀ b, x = some b → Blk w b 75 #[.pointer none, .bool false, .slice none 0 0]
theorem BtZ.none (w : World) : BtZ w none := fun _ h => by cases h
theorem BtZ.below {w w' : World} {x : Option Nat} (h : BtZ w x) (k : Below w.heap.size w w') : BtZ w' x := fun b hb => (h b hb).below k (h b hb).lt
theorem threadsW0 (w : World) : Calls Tryz.prog 29 #[.pointer none] w fun e w' => e = .returned (.int .i64 0) ∧ w = w' := by
  go_enter Tryz.func29, Tryz.ntmps29
  go_wp2
  go_ret
  exact ⟨rfl, rfl⟩
theorem wordsW0 (w : World) : Calls Tryz.prog 31 #[.pointer none] w fun e w' => e = .returned (.slice none 0 0) ∧ w = w' := by
  go_enter Tryz.func31, Tryz.ntmps31
  go_wp2
  go_ret
  exact ⟨rfl, rfl⟩
set_option maxRecDepth 100000 in
theorem cloneN (w : World) : Calls Tryz.prog 76 #[.slice none 0 0] w fun e w' => e = .returned (.slice none 0 0) ∧ w = w'   := by
  have hn := Lib.run_eql_slice_nil w 59 62 none 0 0 0 0 Tryz.underlying59
  simp only [Option.isNone] at hn
  go_enter Tryz.func76, Tryz.ntmps76
  go_wp2
  go_ret
  exact ⟨rfl, rfl⟩
theorem mayZ (w : World) (x : Option Nat) (i : Int) (r : Bool) (h : BtZ w x) : Calls Tryz.prog 118 #[boltV x, .int .i64 i, .bool r] w fun e w' => e = .returned (.int .i64 4) ∧ w = w' := by
  cases x with
  | none =>
    unfold boltV
    simp only [Option.map_none]
    clear h
    go_enter Tryz.func118, Tryz.ntmps118
    go_wp2
    go_ret
    exact ⟨rfl, rfl⟩
  | some b =>
    have c0 : w.cell? ⟨b, 0, none⟩ = some (.pointer none) := (h b rfl).cell 0
    clear h
    unfold boltV
    simp only [Option.map_some]
    go_enter Tryz.func118, Tryz.ntmps118
    by_cases h0 : i < 0
    · go_wp2
      go_ret
      exact ⟨rfl, rfl⟩
    · have h1 : ¬ i < 0 := h0
      have h2 : 0 ≤ i := by omega
      go_wp2_with fail
      refine (threadsW0 w).mono ?_
      rintro en w' ⟨rfl, rfl⟩
      go_wp2
      go_ret
      exact ⟨rfl, rfl⟩
theorem inZ (w : World) (x : Option Nat) (i m k : Int) (r : Bool) (h : BtZ w x) : Calls Tryz.prog 92 #[boltV x, .int .i64 i, .int .i64 m, .int .i64 k, .bool r] w fun e w' => e = .returned (.tuple #[.int .i64 0, .int .i64 4]) ∧ w = w' := by
  have HT := Lib.hid (mayZ w x i r h)
  obtain ⟨v, hv⟩ : ∃ v, v = boltV x := ⟨_, rfl⟩
  rw [← hv] at HT ⊢
  clear h hv
  go_enter Tryz.func92, Tryz.ntmps92
  go_wp2_with fail
  refine HT.out.mono ?_
  rintro en w' ⟨rfl, rfl⟩
  go_wp2
  go_ret2
  exact ⟨rfl, rfl⟩
theorem outZ (w : World) (x : Option Nat) (i m k : Int) (r : Bool) (h : BtZ w x) : Calls Tryz.prog 93 #[boltV x, .int .i64 i, .int .i64 m, .int .i64 k, .bool r] w fun e w' => e = .returned (.tuple #[.int .i64 0, .int .i64 4]) ∧ w = w' := by
  have HT := Lib.hid (mayZ w x i r h)
  obtain ⟨v, hv⟩ : ∃ v, v = boltV x := ⟨_, rfl⟩
  rw [← hv] at HT ⊢
  clear h hv
  go_enter Tryz.func93, Tryz.ntmps93
  go_wp2_with fail
  refine HT.out.mono ?_
  rintro en w' ⟨rfl, rfl⟩
  go_wp2
  go_ret2
  exact ⟨rfl, rfl⟩
theorem lockZ (w : World) (x : Option Nat) (i m : Int) (h : BtZ w x) : Calls Tryz.prog 72 #[boltV x, .int .i64 i, .int .i64 m] w fun e w' => e = .returned (.tuple #[.int .i64 0, .int .i64 4]) ∧ w = w' := by
  have HT := Lib.hid (inZ w x i m 1 false h)
  obtain ⟨v, hv⟩ : ∃ v, v = boltV x := ⟨_, rfl⟩
  rw [← hv] at HT ⊢
  clear h hv
  go_enter Tryz.func72, Tryz.ntmps72
  go_wp2_with fail
  refine HT.out.mono ?_
  rintro en w' ⟨rfl, rfl⟩
  go_wp2
  go_ret2
  exact ⟨rfl, rfl⟩
theorem rlockZ (w : World) (x : Option Nat) (i m : Int) (h : BtZ w x) : Calls Tryz.prog 73 #[boltV x, .int .i64 i, .int .i64 m] w fun e w' => e = .returned (.tuple #[.int .i64 0, .int .i64 4]) ∧ w = w' := by
  have HT := Lib.hid (inZ w x i m 3 true h)
  obtain ⟨v, hv⟩ : ∃ v, v = boltV x := ⟨_, rfl⟩
  rw [← hv] at HT ⊢
  clear h hv
  go_enter Tryz.func73, Tryz.ntmps73
  go_wp2_with fail
  refine HT.out.mono ?_
  rintro en w' ⟨rfl, rfl⟩
  go_wp2
  go_ret2
  exact ⟨rfl, rfl⟩
theorem unlockZ (w : World) (x : Option Nat) (i m : Int) (h : BtZ w x) : Calls Tryz.prog 74 #[boltV x, .int .i64 i, .int .i64 m] w fun e w' => e = .returned (.tuple #[.int .i64 0, .int .i64 4]) ∧ w = w' := by
  have HT := Lib.hid (outZ w x i m 2 false h)
  obtain ⟨v, hv⟩ : ∃ v, v = boltV x := ⟨_, rfl⟩
  rw [← hv] at HT ⊢
  clear h hv
  go_enter Tryz.func74, Tryz.ntmps74
  go_wp2_with fail
  refine HT.out.mono ?_
  rintro en w' ⟨rfl, rfl⟩
  go_wp2
  go_ret2
  exact ⟨rfl, rfl⟩
theorem runlockZ (w : World) (x : Option Nat) (i m : Int) (h : BtZ w x) : Calls Tryz.prog 75 #[boltV x, .int .i64 i, .int .i64 m] w fun e w' => e = .returned (.tuple #[.int .i64 0, .int .i64 4]) ∧ w = w' := by
  have HT := Lib.hid (outZ w x i m 4 true h)
  obtain ⟨v, hv⟩ : ∃ v, v = boltV x := ⟨_, rfl⟩
  rw [← hv] at HT ⊢
  clear h hv
  go_enter Tryz.func75, Tryz.ntmps75
  go_wp2_with fail
  refine HT.out.mono ?_
  rintro en w' ⟨rfl, rfl⟩
  go_wp2
  go_ret2
  exact ⟨rfl, rfl⟩
def wantE (k : Int) : Int := if 1 ≤ k ∧ k ≤ 4 then 4 else 7
set_option maxRecDepth 100000 in
set_option maxHeartbeats 1000000 in
theorem doZ (w : World) (x : Option Nat) (k i m : Int) (h : BtZ w x) : Calls Tryz.prog 35 #[boltV x, .agg #[.int .i64 k, .int .i64 i, .int .i64 m]] w fun e w' => e = .returned (.tuple #[.int .i64 0, .int .i64 (wantE k)]) ∧ Below w.heap.size w w' := by
  have hw := (Below.refl w.heap.size w).alloc (Nat.le_refl _) (.cells #[.int .i64 k, .int .i64 i, .int .i64 m] 71)
  have A1 := Lib.hid (lockZ _ x i m (h.below hw))
  have A2 := Lib.hid (unlockZ _ x i m (h.below hw))
  have A3 := Lib.hid (rlockZ _ x i m (h.below hw))
  have A4 := Lib.hid (runlockZ _ x i m (h.below hw))
  have HW := Lib.hid hw
  obtain ⟨v, hv⟩ : ∃ v, v = boltV x := ⟨_, rfl⟩
  rw [← hv] at A1 A2 A3 A4 ⊢
  clear h hv hw
  by_cases e1 : k = 1
  · subst e1
    rw [show wantE 1 = 4 from rfl]
    go_enter Tryz.func35, Tryz.ntmps35
    go_wp2_with fail
    refine A1.out.mono ?_
    rintro en w' ⟨rfl, rfl⟩
    go_wp2
    go_ret2
    exact ⟨rfl, HW.out⟩
  by_cases e2 : k = 2
  · subst e2
    rw [show wantE 2 = 4 from rfl]
    go_enter Tryz.func35, Tryz.ntmps35
    go_wp2_with fail
    refine A2.out.mono ?_
    rintro en w' ⟨rfl, rfl⟩
    go_wp2
    go_ret2
    exact ⟨rfl, HW.out⟩
  by_cases e3 : k = 3
  · subst e3
    rw [show wantE 3 = 4 from rfl]
    go_enter Tryz.func35, Tryz.ntmps35
    go_wp2_with fail
    refine A3.out.mono ?_
    rintro en w' ⟨rfl, rfl⟩
    go_wp2
    go_ret2
    exact ⟨rfl, HW.out⟩
  by_cases e4 : k = 4
  · subst e4
    rw [show wantE 4 = 4 from rfl]
    go_enter Tryz.func35, Tryz.ntmps35
    go_wp2_with fail
    refine A4.out.mono ?_
    rintro en w' ⟨rfl, rfl⟩
    go_wp2
    go_ret2
    exact ⟨rfl, HW.out⟩
  rw [show wantE k = 7 by unfold wantE; rw [if_neg (by omega)]]
  have t1 : (k == 1) = false := by simpa using e1
  have t2 : (k == 2) = false := by simpa using e2
  have t3 : (k == 3) = false := by simpa using e3
  have t4 : (k == 4) = false := by simpa using e4
  go_enter Tryz.func35, Tryz.ntmps35
  go_wp2
  go_ret2
  exact ⟨rfl, HW.out⟩
theorem traceZ (w : World) (x : Option Nat) (h : BtZ w x) : Calls Tryz.prog 36 #[boltV x] w fun e w' => e = .returned (.slice none 0 0) ∧ Below w.heap.size w w' := by
  cases x with
  | none =>
    unfold boltV
    simp only [Option.map_none]
    clear h
    go_enter Tryz.func36, Tryz.ntmps36
    go_wp2
    go_ret
    exact ⟨rfl, Below.refl _ _⟩
  | some b =>
    have c0 : w.cell? ⟨b, 2, none⟩ = some (.slice none 0 0) := (h b rfl).cell 2
    clear h
    unfold boltV
    simp only [Option.map_some]
    go_enter Tryz.func36, Tryz.ntmps36
    go_wp2_with fail
    refine (cloneN w).mono ?_
    rintro en w' ⟨rfl, rfl⟩
    go_wp2
    go_ret
    exact ⟨rfl, Below.refl _ _⟩
theorem wordsZ (w : World) (x : Option Nat) (h : BtZ w x) : Calls Tryz.prog 37 #[boltV x] w fun e w' => e = .returned (.slice none 0 0) ∧ w = w' := by
  cases x with
  | none =>
    unfold boltV
    simp only [Option.map_none]
    clear h
    go_enter Tryz.func37, Tryz.ntmps37
    go_wp2
    go_ret
    exact ⟨rfl, rfl⟩
  | some b =>
    have c0 : w.cell? ⟨b, 0, none⟩ = some (.pointer none) := (h b rfl).cell 0
    clear h
    unfold boltV
    simp only [Option.map_some]
    go_enter Tryz.func37, Tryz.ntmps37
    go_wp2_with fail
    refine (wordsW0 w).mono ?_
    rintro en w' ⟨rfl, rfl⟩
    go_wp2
    go_ret
    exact ⟨rfl, rfl⟩
end Go.Proofs.YtgbfbeohmogadaaGreat
