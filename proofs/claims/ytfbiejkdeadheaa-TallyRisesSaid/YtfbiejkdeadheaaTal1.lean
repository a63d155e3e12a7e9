/- Layer 12: what tally.note does with a stay that lies in a row of the caller's own. -/
import Derived.Test.YtfbiejkdeadheaaRows
import Derived.Test.YtfbiejkdeadheaaEv1
namespace Go.Proofs.Ytfbiejkdeadheaa
open Go.RowKit Go.Maps

theorem own_cell {w : World} {base : Nat} {e : TypeId} {g cap n : Nat} {out : List Stay} {k : Nat} {s : Stay} (hown : w.ownsRow base e 7 (.slice (some ⟨g, 0, none⟩) n cap) n (out.flatMap encS)) (hn : n = out.length) (hs : out[k]? = some s) (j : Nat) (u : Value) (hu : (encS s)[j]? = some u) :
    w.cell? ⟨g, k * 7 + j, none⟩ = some u := by
  have hk : k < out.length := (List.getElem?_eq_some_iff.1 hs).1
  have hj : j < 7 := by have := (List.getElem?_eq_some_iff.1 hu).1; rw [encS_len] at this; exact this
  rw [hown.cellAt _ (by rw [hn]; omega)]
  exact getElem?_flatMap encS 7 encS_len out k s j u hs hu
theorem own_free {w : World} {base : Nat} {e : TypeId} {g cap n : Nat} {xs : List Value} (hown : w.ownsRow base e 7 (.slice (some ⟨g, 0, none⟩) n cap) n xs) (j : Nat) : w.frozen? ⟨g, j, none⟩ = false := hown.frozenAt j
theorem own_lt {w : World} {base : Nat} {e : TypeId} {g cap n sz : Nat} {xs : List Value} (hown : w.ownsRow base e sz (.slice (some ⟨g, 0, none⟩) n cap) n xs) : base ≤ g ∧ g < w.heap.size := hown.lt g rfl

def NotePost (w : World) (base g cap : Nat) (out : List Stay) (k : Nat) (s : Stay) (t : Int) (e : Ev) (en : Ending) (w' : World) : Prop :=
  en = .returned (.bool (noteOk s e)) ∧ w'.ownsRow base 103 7 (.slice (some ⟨g, 0, none⟩) out.length cap) out.length ((out.set k (noteS s t e)).flatMap encS) ∧ w.grownBy w' (some g)

theorem own_set {w : World} {base : Nat} {e : TypeId} {g cap n : Nat} {out : List Stay} {k : Nat} {s s' : Stay} {j : Nat} {u : Value} (hown : w.ownsRow base e 7 (.slice (some ⟨g, 0, none⟩) n cap) n (out.flatMap encS))
    (hs : out[k]? = some s) (hj : j < 7) (he : (encS s).set j u = encS s') : (w.setCell ⟨g, k * 7 + j, none⟩ u).ownsRow base e 7 (.slice (some ⟨g, 0, none⟩) n cap) n ((out.set k s').flatMap encS) := by
  have h := hown.stored (k * 7 + j) u
  rw [flatMap_set encS 7 encS_len out k s s' j u hs hj he] at h
  exact h.1
theorem own_set2 {w : World} {base : Nat} {e : TypeId} {g cap n : Nat} {out : List Stay} {k : Nat} {s s1 s2 : Stay} {j j' : Nat} {u u' : Value} (hown : w.ownsRow base e 7 (.slice (some ⟨g, 0, none⟩) n cap) n (out.flatMap encS))
    (hs : out[k]? = some s) (hj : j < 7) (he : (encS s).set j u = encS s1) (hj' : j' < 7) (he' : (encS s1).set j' u' = encS s2) :
    ((w.setCell ⟨g, k * 7 + j, none⟩ u).setCell ⟨g, k * 7 + j', none⟩ u').ownsRow base e 7 (.slice (some ⟨g, 0, none⟩) n cap) n ((out.set k s2).flatMap encS) := by
  have hk : k < out.length := (List.getElem?_eq_some_iff.1 hs).1
  have h := own_set (own_set hown hs hj he) (k := k) (s := s1) (by simp [hk]) hj' he'
  simpa using h
theorem set_same {out : List Stay} {k : Nat} {s : Stay} (hs : out[k]? = some s) : out.set k s = out := by
  obtain ⟨hk, rfl⟩ := List.getElem?_eq_some_iff.1 hs
  simp

set_option maxHeartbeats 1000000 in
theorem note_any (w : World) (base g cap : Nat) (out : List Stay) (k : Nat) (s : Stay) (t : Int) (e : Ev) (hown : w.ownsRow base 103 7 (.slice (some ⟨g, 0, none⟩) out.length cap) out.length (out.flatMap encS)) (hs : out[k]? = some s) :
    Calls Try.prog 72 #[.pointer (some ⟨g, k * 7, none⟩), .int .i64 t, .agg #[.int .i64 e.kind, .int .i64 e.thread, .bool e.read, .int .i64 e.count]] w (NotePost w base g cap out k s t e) := by
  have c3 := own_cell hown rfl hs 3 _ rfl
  have c4 := own_cell hown rfl hs 4 _ rfl
  have c5 := own_cell hown rfl hs 5 _ rfl
  have c6 := own_cell hown rfl hs 6 _ rfl
  have f3 := own_free hown (k * 7 + 3)
  have f4 := own_free hown (k * 7 + 4)
  have f5 := own_free hown (k * 7 + 5)
  have f6 := own_free hown (k * 7 + 6)
  have hg := (own_lt hown).2
  have HO := Lib.hid hown
  have HS := Lib.hid hs
  clear hown hs
  have hk2 : e.kind = 2 → (e.kind == 2) = true ∧ (e.kind == 3) = false ∧ (e.kind == 4) = false := fun h => by rw [h]; decide
  have hk3 : e.kind = 3 → (e.kind == 2) = false ∧ (e.kind == 3) = true ∧ (e.kind == 4) = false := fun h => by rw [h]; decide
  have hk4 : e.kind = 4 → (e.kind == 2) = false ∧ (e.kind == 3) = false ∧ (e.kind == 4) = true := fun h => by rw [h]; decide
  have hk5 : ¬ e.kind = 2 → (e.kind == 2) = false := fun h => by simpa using h
  have hk6 : ¬ e.kind = 3 → (e.kind == 3) = false := fun h => by simpa using h
  have hk7 : ¬ e.kind = 4 → (e.kind == 4) = false := fun h => by simpa using h
  by_cases k2 : e.kind = 2
  · obtain ⟨b2, b3, b4⟩ := hk2 k2
    by_cases hse : s.enter < 0
    · have hr : Ending.returned (.bool true) = .returned (.bool (noteOk s e)) ∧ noteS s t e = { s with enter := t, count := e.count } := ⟨ret_bool (Eq.symm (by unfold noteOk; exact decide_eq_true (by omega))), by unfold noteS; rw [if_pos (by omega)]⟩
      have HR := Lib.hid hr
      clear hr hk2 hk3 hk4 hk5 hk6 hk7 k2
      go_enter Try.func72, Try.ntmps72
      go_wp2
      go_region
      all_goals go_wp2
      all_goals go_ret
      all_goals refine ⟨HR.out.1, ?_, ?_⟩
      · rw [HR.out.2]
        exact ((own_set2 (u := .int .i64 t) (u' := .int .i64 e.count) HO.out HS.out (j := 3) (s1 := { s with enter := t }) (s2 := { s with enter := t, count := e.count }) (by omega) rfl (j' := 6) (by omega) rfl).alloc _)
      · exact grown_drewN (grown_alloc (grown_set (grown_set (grown_refl _ _) _ _) _ _) _) 1
    · have hr : Ending.returned (.bool false) = .returned (.bool (noteOk s e)) ∧ noteS s t e = s := ⟨ret_bool (Eq.symm (by unfold noteOk; exact decide_eq_false (by omega))), by unfold noteS; rw [if_neg (by omega), if_neg (by omega), if_neg (by omega)]⟩
      have HR := Lib.hid hr
      clear hr hk2 hk3 hk4 hk5 hk6 hk7 k2
      go_enter Try.func72, Try.ntmps72
      go_wp2
      go_ret
      refine ⟨HR.out.1, ?_, grown_alloc (grown_refl _ _) _⟩
      rw [HR.out.2, set_same HS.out]
      exact HO.out.alloc _
  · by_cases k3 : e.kind = 3
    · obtain ⟨b2, b3, b4⟩ := hk3 k3
      by_cases hse : 0 ≤ s.enter
      · by_cases hsx : s.exit < 0
        · have hr : Ending.returned (.bool true) = .returned (.bool (noteOk s e)) ∧ noteS s t e = { s with exit := t } := ⟨ret_bool (Eq.symm (by unfold noteOk; exact decide_eq_true (by omega))), by unfold noteS; rw [if_neg (by omega), if_pos (by omega)]⟩
          have HR := Lib.hid hr
          clear hr hk2 hk3 hk4 hk5 hk6 hk7 k2 k3
          go_enter Try.func72, Try.ntmps72
          go_wp2
          go_ret
          refine ⟨HR.out.1, ?_, ?_⟩
          · rw [HR.out.2]
            exact ((own_set (u := .int .i64 t) HO.out HS.out (j := 4) (s' := { s with exit := t }) (by omega) rfl).alloc _)
          · exact grown_alloc (grown_set (grown_refl _ _) _ _) _
        · have hr : Ending.returned (.bool false) = .returned (.bool (noteOk s e)) ∧ noteS s t e = s := ⟨ret_bool (Eq.symm (by unfold noteOk; exact decide_eq_false (by omega))), by unfold noteS; rw [if_neg (by omega), if_neg (by omega), if_neg (by omega)]⟩
          have HR := Lib.hid hr
          clear hr hk2 hk3 hk4 hk5 hk6 hk7 k2 k3
          go_enter Try.func72, Try.ntmps72
          go_wp2
          go_ret
          refine ⟨HR.out.1, ?_, grown_alloc (grown_refl _ _) _⟩
          rw [HR.out.2, set_same HS.out]
          exact HO.out.alloc _
      · have hr : Ending.returned (.bool false) = .returned (.bool (noteOk s e)) ∧ noteS s t e = s := ⟨ret_bool (Eq.symm (by unfold noteOk; exact decide_eq_false (by omega))), by unfold noteS; rw [if_neg (by omega), if_neg (by omega), if_neg (by omega)]⟩
        have HR := Lib.hid hr
        clear hr hk2 hk3 hk4 hk5 hk6 hk7 k2 k3
        go_enter Try.func72, Try.ntmps72
        go_wp2
        go_ret
        refine ⟨HR.out.1, ?_, grown_alloc (grown_refl _ _) _⟩
        rw [HR.out.2, set_same HS.out]
        exact HO.out.alloc _
    · by_cases k4 : e.kind = 4
      · obtain ⟨b2, b3, b4⟩ := hk4 k4
        by_cases hse : 0 ≤ s.exit
        · have hr : Ending.returned (.bool true) = .returned (.bool (noteOk s e)) ∧ noteS s t e = { s with rest := t } := ⟨ret_bool (Eq.symm (by unfold noteOk; exact decide_eq_true (by omega))), by unfold noteS; rw [if_neg (by omega), if_neg (by omega), if_pos (by omega)]⟩
          have HR := Lib.hid hr
          clear hr hk2 hk3 hk4 hk5 hk6 hk7 k2 k3 k4
          go_enter Try.func72, Try.ntmps72
          go_wp2
          go_ret
          refine ⟨HR.out.1, ?_, ?_⟩
          · rw [HR.out.2]
            exact ((own_set (u := .int .i64 t) HO.out HS.out (j := 5) (s' := { s with rest := t }) (by omega) rfl).alloc _)
          · exact grown_alloc (grown_set (grown_refl _ _) _ _) _
        · have hr : Ending.returned (.bool false) = .returned (.bool (noteOk s e)) ∧ noteS s t e = s := ⟨ret_bool (Eq.symm (by unfold noteOk; exact decide_eq_false (by omega))), by unfold noteS; rw [if_neg (by omega), if_neg (by omega), if_neg (by omega)]⟩
          have HR := Lib.hid hr
          clear hr hk2 hk3 hk4 hk5 hk6 hk7 k2 k3 k4
          go_enter Try.func72, Try.ntmps72
          go_wp2
          go_ret
          refine ⟨HR.out.1, ?_, grown_alloc (grown_refl _ _) _⟩
          rw [HR.out.2, set_same HS.out]
          exact HO.out.alloc _
      · have hr : Ending.returned (.bool false) = .returned (.bool (noteOk s e)) ∧ noteS s t e = s := ⟨ret_bool (Eq.symm (by unfold noteOk; exact decide_eq_false (by omega))), by unfold noteS; rw [if_neg (by omega), if_neg (by omega), if_neg (by omega)]⟩
        have b2 := hk5 k2
        have b3 := hk6 k3
        have b4 := hk7 k4
        have HR := Lib.hid hr
        clear hr hk2 hk3 hk4 hk5 hk6 hk7 k2 k3 k4
        go_enter Try.func72, Try.ntmps72
        go_wp2
        go_ret
        refine ⟨HR.out.1, ?_, grown_alloc (grown_refl _ _) _⟩
        rw [HR.out.2, set_same HS.out]
        exact HO.out.alloc _
end Go.Proofs.Ytfbiejkdeadheaa
