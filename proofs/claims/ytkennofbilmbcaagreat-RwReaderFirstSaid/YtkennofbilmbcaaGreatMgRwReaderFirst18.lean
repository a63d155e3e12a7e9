/- Joined: Sm5r, Sm5n, Sm6n, Sm6r, Sm7r, Sm8r, RwAr. -/
import Derived.Test.YtkennofbilmbcaaGreatMgRwReaderFirst15
import Derived.Test.YtkennofbilmbcaaGreatMgRwReaderFirst16
import Derived.Test.YtkennofbilmbcaaGreatMgRwReaderFirst17
section
set_option linter.unusedVariables false
set_option linter.unusedSimpArgs false
/- Layer 37 (readers): Threads, has, Spot, over the cohort lock. (printed by gen_sm5.py) -/
namespace Go.Proofs.YtkennofbilmbcaaGreat
open Go.RowKit

section
variable {B BC : Nat → Prop} {w w' : World} {a g : Nat} {X : SmX} {c : CoC} {P T : List Int} {st st' : Co} {d d' : Dr} {U : List Sp} {s' : Ar}
theorem thr_r (h : SmIs 89 B BC w a g X c P T st d U) : Calls Tryz.prog 160 #[.pointer (some ⟨X.l, 0, none⟩)] w fun e w' => e = .returned (.int .i64 T.length) ∧ w = w' := by
  have c6 := h.cs.2.2.2.2.2.2
  clear h
  go_enter Tryz.func160, Tryz.ntmps160
  go_wp2
  go_ret
  exact ⟨rfl, rfl⟩
theorem has_r (h : SmIs 89 B BC w a g X c P T st d U) (i : Int) (r : Bool) (hr : r = decide (okI U i)) : Calls Tryz.prog 161 #[.pointer (some ⟨X.l, 0, none⟩), .int .i64 i] w fun e w' => e = .returned (.bool r) ∧ w = w' := by
  have HT := Lib.hid (thr_r h)
  have hsl := h.lU
  clear h
  by_cases h0 : 0 ≤ i
  · by_cases h1 : i < T.length
    · have e : r = true := by rw [hr]; exact decide_eq_true (show 0 ≤ i ∧ i < U.length from ⟨h0, by rw [hsl]; exact h1⟩)
      subst e
      clear hr
      go_enter Tryz.func161, Tryz.ntmps161
      go_wp2_with fail
      refine HT.out.mono ?_
      rintro en w1 ⟨rfl, rfl⟩
      go_wp2
      go_ret
      exact ⟨rfl, rfl⟩
    · have e : r = false := by rw [hr]; exact decide_eq_false (fun k => h1 (by have := k.2; rw [hsl] at this; exact this))
      subst e
      clear hr
      go_enter Tryz.func161, Tryz.ntmps161
      go_wp2_with fail
      refine HT.out.mono ?_
      rintro en w1 ⟨rfl, rfl⟩
      go_wp2
      go_ret
      exact ⟨congrArg (fun b => Ending.returned (Value.bool b)) (decide_eq_false (by omega)), rfl⟩
  · have e : r = false := by rw [hr]; exact decide_eq_false (fun k => h0 k.1)
    subst e
    clear hr
    go_enter Tryz.func161, Tryz.ntmps161
    go_wp2
    go_ret
    exact ⟨rfl, rfl⟩
set_option maxHeartbeats 400000 in
theorem spot_r (h : SmIs 89 B BC w a g X c P T st d U) (i : Int) :
    Calls Tryz.prog 158 #[.pointer (some ⟨X.l, 0, none⟩), .int .i64 i] w fun e w' => e = .returned (spotV (getS U i)) ∧ Below w.heap.size w w' := by
  have hb := h.below ((Below.refl _ _).alloc (Nat.le_refl _) (.cells #[.int .i64 0, .int .i64 0, .int .i64 0, .int .i64 0] 35))
  have H := Lib.hid hb
  have hs1 := h.lk.lt
  have hs2 := h.sp.lt
  have hsl := h.lU
  by_cases hok : okI U i
  · have HH := Lib.hid (has_r hb i true (decide_eq_true hok).symm)
    have hp := getS_in hok
    obtain ⟨p, hpp⟩ : ∃ p, p = getS U i := ⟨_, rfl⟩
    rw [← hpp] at hp ⊢
    have c6 := h.cs.2.2.2.2.2.2
    have a0 := h.sp.cell hp 0 _ rfl
    have a1 := h.sp.cell hp 1 _ rfl
    have a2 := h.sp.cell hp 2 _ rfl
    have a3 := h.sp.cell hp 3 _ rfl
    simp only [Nat.add_zero] at a0
    obtain ⟨h0, h1⟩ := id hok
    rw [hsl] at h1
    obtain ⟨n, rfl⟩ := Int.eq_ofNat_of_zero_le h0
    simp only [Int.toNat_natCast] at a0 a1 a2 a3
    have t2 : ¬ (n : Int) < 0 := by omega
    have t4 : n < T.length := by omega
    clear h hb hp hpp h0 h1 hok hsl
    go_enter Tryz.func158, Tryz.ntmps158
    go_wp2_with (go_at_call 161; refine HH.out.mono ?_; rintro e w' ⟨rfl, rfl⟩)
    exact bodyPost_ret (results_cell_row (by rfl) _ _ w.heap.size 35 _ (0, 0) _ (by rfl) (heap_alloc_new w _) Tryz.underlying35 rfl (by kernel_rfl)) rfl ⟨rfl, (Below.refl _ _).alloc (Nat.le_refl _) _⟩
  · have HH := Lib.hid (has_r hb i false (decide_eq_false hok).symm)
    rw [getS_out hok]
    clear h hb hok hsl
    go_enter Tryz.func158, Tryz.ntmps158
    go_wp2_with (go_at_call 161; refine HH.out.mono ?_; rintro e w' ⟨rfl, rfl⟩)
    exact bodyPost_ret (results_cell_row (by rfl) _ _ w.heap.size 35 _ (0, 0) _ (by rfl) (heap_alloc_new w _) Tryz.underlying35 rfl (by kernel_rfl)) rfl ⟨rfl, (Below.refl _ _).alloc (Nat.le_refl _) _⟩
end
end Go.Proofs.YtkennofbilmbcaaGreat
end
section
set_option linter.unusedVariables false
set_option linter.unusedSimpArgs false
/- Layer 36 (neutral): Ask, Leave, over the cohort lock. (printed by gen_sm6.py) -/
namespace Go.Proofs.YtkennofbilmbcaaGreat
open Go.RowKit

/-- behind an act -/
def SmAct (ty : TypeId) (B BC : Nat → Prop) (w : World) (a g : Nat) (X : SmX) (c : CoC) (P T : List Int) (x' : Nu) (e : Ending) (w' : World) : Prop :=
  ∃ r, e = .returned (.bool r) ∧ SmIs ty B BC w' a g X c P T x'.st x'.d x'.U ∧ Turns (SmS a g X) w w'
section
variable {ty : TypeId}
variable {B BC : Nat → Prop} {w w' : World} {a g : Nat} {X : SmX} {c : CoC} {P T : List Int} {st st' : Co} {d d' : Dr} {U : List Sp} {s' : Ar}
theorem SmIs.put4 (h : SmIs ty B BC w a g X c P T st d U) {n : Nat} (hn : n < T.length) (p' : Sp) : SmIs ty B BC ((((w.setCell ⟨X.q, n * 4, none⟩ (.int .i64 p'.pc)).setCell ⟨X.q, n * 4 + 1, none⟩ (.int .i64 p'.a)).setCell ⟨X.q, n * 4 + 2, none⟩ (.int .i64 p'.b)).setCell ⟨X.q, n * 4 + 3, none⟩ (.int .i64 p'.c)) a g X c P T st d (U.set n p') := by
  have hp := h.thr hn
  obtain ⟨p, e⟩ : ∃ p, p = sv U n := ⟨_, rfl⟩
  rw [← e] at hp
  have h1 := h.put0 hp (u := .int .i64 p'.pc) (p' := ⟨p'.pc, p.a, p.b, p.c⟩) rfl
  have h2 := h1.put (getS_set hp _) (j := 1) (u := .int .i64 p'.a) (p' := ⟨p'.pc, p'.a, p.b, p.c⟩) (by decide) rfl
  have h3 := h2.put (getS_set (getS_set hp _) _) (j := 2) (u := .int .i64 p'.b) (p' := ⟨p'.pc, p'.a, p'.b, p.c⟩) (by decide) rfl
  have h4 := h3.put (getS_set (getS_set (getS_set hp _) _) _) (j := 3) (u := .int .i64 p'.c) (p' := p') (by decide) rfl
  simp only [List.set_set] at h4
  exact h4
theorem smS_q4 (w : World) (n : Nat) (u0 u1 u2 u3 : Value) : Turns (SmS a g X) w ((((w.setCell ⟨X.q, n * 4, none⟩ u0).setCell ⟨X.q, n * 4 + 1, none⟩ u1).setCell ⟨X.q, n * 4 + 2, none⟩ u2).setCell ⟨X.q, n * 4 + 3, none⟩ u3) :=
  (((smS_q _ _).trans (smS_q _ _)).trans (smS_q _ _)).trans (smS_q _ _)
end
section
variable {B BC : Nat → Prop} {w w' : World} {a g : Nat} {X : SmX} {c : CoC} {P T : List Int} {st st' : Co} {d d' : Dr} {U : List Sp} {s' : Ar}
end
end Go.Proofs.YtkennofbilmbcaaGreat
end
section
set_option linter.unusedVariables false
set_option linter.unusedSimpArgs false
/- Layer 37 (readers): Ask, Leave, over the cohort lock. (printed by gen_sm67.py) -/
namespace Go.Proofs.YtkennofbilmbcaaGreat
open Go.RowKit

section
variable {B BC : Nat → Prop} {w w' w0 : World} {a g : Nat} {X : SmX} {c : CoC} {P T : List Int} {st st' : Co} {d d' : Dr} {U : List Sp} {s' : Ar} {BB : Int}
set_option maxRecDepth 100000 in
set_option maxHeartbeats 2000000 in
theorem ask_r (h : SmIs 89 B BC w a g X c P T st d U) (n : Nat) (hn : n < T.length) (r : Bool) : Calls Tryz.prog 155 #[.pointer (some ⟨X.l, 0, none⟩), .int .i64 n, .bool r] w (SmAct 89 B BC w a g X c P T (nuAsk c ⟨st, d, U⟩ n r)) := by
  have hok : okI U (n : Int) := ⟨by omega, by rw [h.lU]; omega⟩
  have HH := Lib.hid (has_r h n true (decide_eq_true hok).symm)
  have hp := h.thr hn
  have H := Lib.hid h
  have hx := h.nT
  have HA := Lib.hid (askCo h.co n (by rw [hx.1]; exact hn))
  obtain ⟨x', hx'⟩ : ∃ x, x = nuAsk c ⟨st, d, U⟩ n r := ⟨_, rfl⟩
  rw [← hx']
  unfold nuAsk at hx'
  obtain ⟨p, hpp⟩ : ∃ p, p = sv U n := ⟨_, rfl⟩
  simp only at hx'
  rw [← hpp] at hp hx'
  have c6 := h.cs.2.2.2.2.2.2
  have c5 := h.cs.2.2.2.2.2.1
  have a0 := h.sp.cell hp 0 _ rfl
  have a1 := h.sp.cell hp 1 _ rfl
  have a2 := h.sp.cell hp 2 _ rfl
  have a3 := h.sp.cell hp 3 _ rfl
  have f1 : ∀ j, w.frozen? ⟨X.q, j, none⟩ = false := fun j => h.sp.free j
  simp only [Nat.add_zero] at a0
  have t2 : ¬ (n : Int) < 0 := by omega
  have HX := Lib.hid hx'
  have HP := Lib.hid hp
  clear h hp hpp hok hx hx'
  by_cases hp0 : p.pc = 0
  · have y1 : (p.pc != 0) = false := by simpa using hp0
    have HP0 := Lib.hid hp0
    clear hp0
    cases r
    · go_enter Tryz.func155, Tryz.ntmps155
      go_wp2_with fail
      refine HH.out.mono ?_
      rintro en w1 ⟨rfl, rfl⟩
      go_wp2_with fail
      refine HA.out.mono ?_
      rintro en w2 ⟨rfl, k2, t2'⟩
      have H2 := Lib.hid (H.out.coT t2' k2)
      have T2 := Lib.hid (smS_co t2')
      have d6 := H2.out.cs.2.2.2.2.2.2
      have b0 := H2.out.sp.cell HP.out 0 _ rfl
      have b1 := H2.out.sp.cell HP.out 1 _ rfl
      have b2 := H2.out.sp.cell HP.out 2 _ rfl
      have b3 := H2.out.sp.cell HP.out 3 _ rfl
      have f2 : ∀ j, w2.frozen? ⟨X.q, j, none⟩ = false := fun j => H2.out.sp.free j
      simp only [Nat.add_zero] at b0
      clear k2 t2'
      go_wp2
      go_ret
      rw [HX.out, if_pos HP0.out, if_neg (by decide)]
      exact ⟨_, rfl, H2.out.put4 hn ⟨7, 0, 0, 0⟩, T2.out.trans (smS_q4 _ _ _ _ _ _)⟩
    · go_enter Tryz.func155, Tryz.ntmps155
      go_wp2_with fail
      refine HH.out.mono ?_
      rintro en w1 ⟨rfl, rfl⟩
      go_wp2
      go_ret
      rw [HX.out, if_pos HP0.out]
      exact ⟨_, rfl, H.out.put4 hn ⟨1, 1, 0, 0⟩, smS_q4 _ _ _ _ _ _⟩
  · have y1 : (p.pc != 0) = true := by simpa using hp0
    have HP0 := Lib.hid hp0
    clear hp0
    go_enter Tryz.func155, Tryz.ntmps155
    go_wp2_with fail
    refine HH.out.mono ?_
    rintro en w1 ⟨rfl, rfl⟩
    go_wp2
    go_ret
    rw [HX.out, if_neg HP0.out]
    exact ⟨_, rfl, H.out, Turns.refl _ _⟩
theorem ask_r_out (h : SmIs 89 B BC w a g X c P T st d U) (i : Int) (hok : ¬ okI U i) (r : Bool) : Calls Tryz.prog 155 #[.pointer (some ⟨X.l, 0, none⟩), .int .i64 i, .bool r] w (SmAct 89 B BC w a g X c P T ⟨st, d, U⟩) := by
  have HH := Lib.hid (has_r h i false (decide_eq_false hok).symm)
  have H := Lib.hid h
  clear h hok
  go_enter Tryz.func155, Tryz.ntmps155
  go_wp2_with fail
  refine HH.out.mono ?_
  rintro en w1 ⟨rfl, rfl⟩
  go_wp2
  go_ret
  exact ⟨_, rfl, H.out, Turns.refl _ _⟩
set_option maxRecDepth 100000 in
set_option maxHeartbeats 2000000 in
theorem leave_r (h : SmIs 89 B BC w a g X c P T st d U) (n : Nat) (hn : n < T.length) (ha : (sv U n).pc = 10 → (sv U n).a = 0 ∨ (sv U n).a = 1) : Calls Tryz.prog 156 #[.pointer (some ⟨X.l, 0, none⟩), .int .i64 n] w (SmAct 89 B BC w a g X c P T (nuLeave ⟨st, d, U⟩ n)) := by
  have hfp := field_pc
  have HS0 := spot_r h n
  have hp := h.thr hn
  have hg : getS U (n : Int) = sv U n := by
    unfold getS sv
    rw [if_pos ⟨by omega, by rw [h.lU]; omega⟩, Int.toNat_natCast]
  rw [hg] at HS0
  have H := Lib.hid h
  obtain ⟨x', hx'⟩ : ∃ x, x = nuLeave ⟨st, d, U⟩ n := ⟨_, rfl⟩
  rw [← hx']
  unfold nuLeave at hx'
  obtain ⟨p, hpp⟩ : ∃ p, p = sv U n := ⟨_, rfl⟩
  simp only at hx'
  rw [← hpp] at hp hx' HS0 ha
  have HS := Lib.hid HS0
  have HP := Lib.hid hp
  have t2 : ¬ (n : Int) < 0 := by omega
  have hn32 := h.nT.2.2.1
  clear h hp hpp hg HS0
  obtain ⟨pc, u, b, z⟩ := p
  simp only at ha hx'
  unfold spotV at HS
  by_cases hp0 : pc = 10
  · subst hp0
    have ha' := ha rfl
    rw [if_pos rfl] at hx'
    clear ha
    rcases ha' with rfl | rfl
    · have HX : Hid (x' = ⟨st, d, U.set n ⟨12, 0, b, z⟩⟩) := Lib.hid hx'
      have x1 : IntKind.i64.wrap 12 = 12 := IntWalk.i64_in _ (by omega)
      clear hx'
      go_enter Tryz.func156, Tryz.ntmps156
      go_wp2_with fail
      refine HS.out.mono ?_
      rintro en w1 ⟨rfl, b1⟩
      have K1 := Lib.hid (H.out.below b1)
      have T1 := Lib.hid (Turns.of_below (S := SmS a g X) b1)
      have e0 := K1.out.sp.cell HP.out 0 _ rfl
      have z0 := K1.out.sp.free (n * 4)
      have d6 := K1.out.cs.2.2.2.2.2.2
      have l1 := K1.out.lk.lt
      have l2 := K1.out.sp.lt
      simp only [Nat.add_zero] at e0
      clear b1
      go_wp2
      go_ret
      rw [HX.out]
      exact ⟨_, rfl, (K1.out.put0 HP.out (p' := (⟨12, 0, b, z⟩ : Sp)) rfl).below ((Below.refl _ _).alloc (Nat.le_refl _) _), (T1.out.trans (smS_q _ _)).alloc _⟩
    · have HX : Hid (x' = ⟨st, d, U.set n ⟨11, 1, b, z⟩⟩) := Lib.hid hx'
      have x1 : IntKind.i64.wrap 11 = 11 := IntWalk.i64_in _ (by omega)
      clear hx'
      go_enter Tryz.func156, Tryz.ntmps156
      go_wp2_with fail
      refine HS.out.mono ?_
      rintro en w1 ⟨rfl, b1⟩
      have K1 := Lib.hid (H.out.below b1)
      have T1 := Lib.hid (Turns.of_below (S := SmS a g X) b1)
      have e0 := K1.out.sp.cell HP.out 0 _ rfl
      have z0 := K1.out.sp.free (n * 4)
      have d6 := K1.out.cs.2.2.2.2.2.2
      have l1 := K1.out.lk.lt
      have l2 := K1.out.sp.lt
      simp only [Nat.add_zero] at e0
      clear b1
      go_wp2
      go_ret
      rw [HX.out]
      exact ⟨_, rfl, (K1.out.put0 HP.out (p' := (⟨11, 1, b, z⟩ : Sp)) rfl).below ((Below.refl _ _).alloc (Nat.le_refl _) _), (T1.out.trans (smS_q _ _)).alloc _⟩
  · have y1 : (pc != 10) = true := by simpa using hp0
    have HX := Lib.hid hx'
    have HP0 := Lib.hid hp0
    clear hp0 ha hx'
    go_enter Tryz.func156, Tryz.ntmps156
    go_wp2_with fail
    refine HS.out.mono ?_
    rintro en w1 ⟨rfl, b1⟩
    have HB := Lib.hid b1
    clear b1
    go_wp2
    go_ret
    rw [HX.out, if_neg HP0.out]
    exact ⟨_, rfl, (H.out.below HB.out).below ((Below.refl _ _).alloc (Nat.le_refl _) _), (Turns.of_below HB.out).alloc _⟩
theorem leave_r_out (h : SmIs 89 B BC w a g X c P T st d U) (i : Int) (hok : ¬ okI U i) : Calls Tryz.prog 156 #[.pointer (some ⟨X.l, 0, none⟩), .int .i64 i] w (SmAct 89 B BC w a g X c P T ⟨st, d, U⟩) := by
  have hfp := field_pc
  have HS0 := spot_r h i
  rw [getS_out hok] at HS0
  have HS := Lib.hid HS0
  have H := Lib.hid h
  clear h hok HS0
  unfold spotV Sp.zero at HS
  go_enter Tryz.func156, Tryz.ntmps156
  go_wp2_with fail
  refine HS.out.mono ?_
  rintro en w1 ⟨rfl, b1⟩
  have HB := Lib.hid b1
  clear b1
  go_wp2
  go_ret
  exact ⟨_, rfl, (H.out.below HB.out).below ((Below.refl _ _).alloc (Nat.le_refl _) _), (Turns.of_below HB.out).alloc _⟩
end
end Go.Proofs.YtkennofbilmbcaaGreat
end
section
set_option linter.unusedVariables false
set_option linter.unusedSimpArgs false
/- Layer 37 (readers): what a step does, over the cohort lock. (printed by gen_sm67.py) -/
namespace Go.Proofs.YtkennofbilmbcaaGreat
open Go.RowKit

/-- behind what a step does: where the thread comes -/
def NextOk (ty : TypeId) (B BC : Nat → Prop) (w : World) (a g : Nat) (X : SmX) (c : CoC) (P T : List Int) (r : Co × Dr × Int) (U : List Sp) (e : Ending) (w' : World) : Prop :=
  e = .returned (.int .i64 r.2.2) ∧ SmIs ty B BC w' a g X c P T r.1 r.2.1 U ∧ Turns (SmS a g X) w w'
section
variable {ty : TypeId}
variable {B BC : Nat → Prop} {w w' w0 : World} {a g : Nat} {X : SmX} {c : CoC} {P T : List Int} {st st' : Co} {d d' : Dr} {U : List Sp} {s' : Ar} {BB : Int}
theorem SmIs.ltsA (h : SmIs ty B BC w a g X c P T st d U) : ∀ r ∈ SmS a g X, r < w.heap.size := by
  intro r hr
  unfold SmS at hr
  simp only [List.mem_cons] at hr
  rcases hr with rfl | rfl | hr
  · exact h.sp.lt
  · exact h.gd.dr.lt
  · exact h.co.lts r hr
theorem SmIs.nodeA (h : SmIs ty B BC w a g X c P T st d U) {n : Nat} (hn : n < T.length) : (c.node n) < (leavesL P).length ∧ (nodesTo P T T.length)[n]? = some ((c.node n : Nat) : Int) := by
  have := h.co.fx.node (i := n) (by rw [h.nT.1]; exact hn)
  rw [h.nT.2.1] at this
  exact this
theorem SmIs.drw (h : SmIs ty B BC w a g X c P T st d U) : SmIs ty B BC w.drew a g X c P T st d U := h.below (Below.refl _ _).drew
end
section
variable {B BC : Nat → Prop} {w w' w0 : World} {a g : Nat} {X : SmX} {c : CoC} {P T : List Int} {st st' : Co} {d d' : Dr} {U : List Sp} {s' : Ar} {BB : Int}
set_option maxRecDepth 100000 in
set_option maxHeartbeats 2000000 in
theorem reads1_r (h : SmIs 89 B BC w a g X c P T st d U) {nd : Nat} (hnd : nd < (leavesL P).length) (ho : st.s.ops + 1 ≤ 1000000000000) : Calls Tryz.prog 162 #[.pointer (some ⟨X.l, 0, none⟩), .int .i64 1, .int .i64 nd] w (NextOk 89 B BC w a g X c P T (onA st (addA st.s (2 * (nd : Int) + 1) 1), d, 2) U) := by
  have hnd := Lib.hid hnd
  have H := Lib.hid h
  clear h
  go_enter Tryz.func162, Tryz.ntmps162
  have K0 := H
  have T0 := Lib.hid (Turns.refl (SmS a g X) w)
  have d2 := K0.out.cs.2.2.1
  go_wp2_with fail
  refine (gaEnter K0.out.gd.ga K0.out.gd.ar nd hnd.out K0.out.gd.n32 ho).mono ?_
  rintro en w1 ⟨rfl, a2, t2⟩
  have K1 := Lib.hid (K0.out.arT t2 a2)
  have T1 := Lib.hid (T0.out.trans (smS_ag t2))
  clear a2 t2
  go_wp2
  go_ret
  exact ⟨rfl, K1.out, T1.out⟩
set_option maxRecDepth 100000 in
set_option maxHeartbeats 2000000 in
theorem reads11_r (h : SmIs 89 B BC w a g X c P T st d U) {nd : Nat} (hnd : nd < (leavesL P).length) (ho : st.s.ops + 1 ≤ 1000000000000) : Calls Tryz.prog 162 #[.pointer (some ⟨X.l, 0, none⟩), .int .i64 11, .int .i64 nd] w (NextOk 89 B BC w a g X c P T (onA st (addA st.s (2 * (nd : Int) + 1 + 1) 1), d, 0) U) := by
  have hnd := Lib.hid hnd
  have H := Lib.hid h
  clear h
  go_enter Tryz.func162, Tryz.ntmps162
  have K0 := H
  have T0 := Lib.hid (Turns.refl (SmS a g X) w)
  have d2 := K0.out.cs.2.2.1
  go_wp2_with fail
  refine (gaExit K0.out.gd.ga K0.out.gd.ar nd hnd.out K0.out.gd.n32 ho).mono ?_
  rintro en w1 ⟨rfl, a2, t2⟩
  have K1 := Lib.hid (K0.out.arT t2 a2)
  have T1 := Lib.hid (T0.out.trans (smS_ag t2))
  clear a2 t2
  go_wp2
  go_ret
  exact ⟨rfl, K1.out, T1.out⟩
set_option maxRecDepth 100000 in
set_option maxHeartbeats 2000000 in
theorem reads2_r (h : SmIs 89 B BC w a g X c P T st d U) (nd : Nat) (ho : st.s.ops + 1 ≤ 1000000000000) : Calls Tryz.prog 162 #[.pointer (some ⟨X.l, 0, none⟩), .int .i64 2, .int .i64 nd] w (NextOk 89 B BC w a g X c P T (onA st (loadA st.s (nuFl (leavesL P).length)), d, if ldW st.s.W (nuFl (leavesL P).length) = 0 then 10 else 2) U) := by
  have H := Lib.hid h
  clear h
  obtain ⟨q, hq⟩ : ∃ q, q = ldW st.s.W (nuFl (leavesL P).length) := ⟨_, rfl⟩
  rw [← hq]
  have HQ := Lib.hid hq
  clear hq
  have HO0 := Lib.hid (load_any (H.out.drw).gd.ar (nuFl (leavesL P).length) ho)
  rw [← HQ.out] at HO0
  obtain ⟨v, hv⟩ : ∃ v : Int, v = if q = 0 then 10 else 2 := ⟨_, rfl⟩
  rw [← hv]
  have HV := Lib.hid hv
  clear hv
  cases hz : (q == 0)
  all_goals
    go_enter Tryz.func162, Tryz.ntmps162
    have K0d := Lib.hid H.out.drw
    have T0 := Lib.hid (Turns.refl (SmS a g X) w)
    go_wp2_with fail
    first
    | (go_region_held3 (fun W => W.cell? ⟨X.l, 0, none⟩ = some (.pointer (some ⟨a, 0, none⟩)) ∧ W.cell? ⟨X.l, 4, none⟩ = some (.int .i64 (2 * ((leavesL P).length : Int) + 1)))
        (first | exact ⟨K0d.out.cs.1, K0d.out.cs.2.2.2.2.1⟩ | exact ⟨K1.out.cs.1, K1.out.cs.2.2.2.2.1⟩)
        (first
          | (go_at_call 117; go_loud (refine HO0.out.mono ?_); rintro en w1 ⟨rfl, a3, t3⟩; have K1 := Lib.hid (K0d.out.arT t3 a3); have T1 := Lib.hid (T0.out.drew.trans (smS_ag t3)); clear a3 t3)))
    | fail "held"
  all_goals
    first
    | (go_wp2
       go_ret
       rw [HV.out, if_pos (by simpa using hz)]
       exact ⟨rfl, K1.out, T1.out⟩)
    | (go_wp2
       go_ret
       rw [HV.out, if_neg (by simpa using hz)]
       exact ⟨rfl, K1.out, T1.out⟩)
set_option maxRecDepth 100000 in
set_option maxHeartbeats 2000000 in
theorem looks5_r (h : SmIs 89 B BC w a g X c P T st d U) (hN : 1 ≤ (leavesL P).length) (ho : st.s.ops + 1 ≤ 1000000000000) : Calls Tryz.prog 164 #[.pointer (some ⟨X.l, 0, none⟩), .int .i64 5] w (NextOk 89 B BC w a g X c P T (onA st (storeA st.s (nuFl (leavesL P).length) 0), drBeg d (leavesL P).length false, 6) U) := by
  have H := Lib.hid h
  clear h
  go_enter Tryz.func164, Tryz.ntmps164
  have K0 := H
  have T0 := Lib.hid (Turns.refl (SmS a g X) w)
  have K0d := Lib.hid K0.out.drw
  have HO0 := Lib.hid (store_any (K0d.out).gd.ar (nuFl (leavesL P).length) (0) ho)
  go_wp2_with fail
  go_region_held3 (fun W => W.cell? ⟨X.l, 0, none⟩ = some (.pointer (some ⟨a, 0, none⟩)) ∧ W.cell? ⟨X.l, 4, none⟩ = some (.int .i64 (2 * ((leavesL P).length : Int) + 1)))
    (first | exact ⟨K0d.out.cs.1, K0d.out.cs.2.2.2.2.1⟩ | exact ⟨K1.out.cs.1, K1.out.cs.2.2.2.2.1⟩)
    (first
      | (go_at_call 61; go_loud (refine HO0.out.mono ?_); rintro en w1 ⟨rfl, a3, t3⟩; have K1 := Lib.hid (K0d.out.arT t3 a3); have T1 := Lib.hid (T0.out.drew.trans (smS_ag t3)); clear a3 t3))
  have K1d := Lib.hid K1.out.drw
  have HB1 := Lib.hid (drBegin (K1d.out).gd hN false)
  have HN1 := Lib.hid (nodesFQ _ X.b P T (K1d.out).tb.f)
  go_wp2_with fail
  go_region_held3 (fun W => W.cell? ⟨X.l, 3, none⟩ = some (.pointer (some ⟨X.dd, 0, none⟩)) ∧ W.cell? ⟨X.l, 1, none⟩ = some (.pointer (some ⟨X.b, 0, none⟩)))
    (first | exact ⟨K1d.out.cs.2.2.2.1, K1d.out.cs.2.1⟩ | exact ⟨K2.out.cs.2.2.2.1, K2.out.cs.2.1⟩)
    (first
      | (go_at_call 29; go_loud (refine HN1.out.mono ?_); rintro en wn ⟨rfl, rfl⟩)
      | (go_at_call 130; go_loud (refine HB1.out.mono ?_); rintro en w2 ⟨rfl, k4, t4⟩; have K2 := Lib.hid (K1d.out.gdT t4 k4); have T2 := Lib.hid (T1.out.drew.trans (smS_gd t4)); clear k4 t4))
  go_wp2
  go_ret
  exact ⟨rfl, K2.out, T2.out⟩
set_option maxRecDepth 100000 in
set_option maxHeartbeats 2000000 in
theorem looks8_r (h : SmIs 89 B BC w a g X c P T st d U) (hN : 1 ≤ (leavesL P).length) (ho : st.s.ops + 1 ≤ 1000000000000) : Calls Tryz.prog 164 #[.pointer (some ⟨X.l, 0, none⟩), .int .i64 8] w (NextOk 89 B BC w a g X c P T (onA st (storeA st.s (nuFl (leavesL P).length) 1), drBeg d (leavesL P).length true, 9) U) := by
  have H := Lib.hid h
  clear h
  go_enter Tryz.func164, Tryz.ntmps164
  have K0 := H
  have T0 := Lib.hid (Turns.refl (SmS a g X) w)
  have K0d := Lib.hid K0.out.drw
  have HO0 := Lib.hid (store_any (K0d.out).gd.ar (nuFl (leavesL P).length) (1) ho)
  go_wp2_with fail
  go_region_held3 (fun W => W.cell? ⟨X.l, 0, none⟩ = some (.pointer (some ⟨a, 0, none⟩)) ∧ W.cell? ⟨X.l, 4, none⟩ = some (.int .i64 (2 * ((leavesL P).length : Int) + 1)))
    (first | exact ⟨K0d.out.cs.1, K0d.out.cs.2.2.2.2.1⟩ | exact ⟨K1.out.cs.1, K1.out.cs.2.2.2.2.1⟩)
    (first
      | (go_at_call 61; go_loud (refine HO0.out.mono ?_); rintro en w1 ⟨rfl, a3, t3⟩; have K1 := Lib.hid (K0d.out.arT t3 a3); have T1 := Lib.hid (T0.out.drew.trans (smS_ag t3)); clear a3 t3))
  have K1d := Lib.hid K1.out.drw
  have HB1 := Lib.hid (drBegin (K1d.out).gd hN true)
  have HN1 := Lib.hid (nodesFQ _ X.b P T (K1d.out).tb.f)
  go_wp2_with fail
  go_region_held3 (fun W => W.cell? ⟨X.l, 3, none⟩ = some (.pointer (some ⟨X.dd, 0, none⟩)) ∧ W.cell? ⟨X.l, 1, none⟩ = some (.pointer (some ⟨X.b, 0, none⟩)))
    (first | exact ⟨K1d.out.cs.2.2.2.1, K1d.out.cs.2.1⟩ | exact ⟨K2.out.cs.2.2.2.1, K2.out.cs.2.1⟩)
    (first
      | (go_at_call 29; go_loud (refine HN1.out.mono ?_); rintro en wn ⟨rfl, rfl⟩)
      | (go_at_call 130; go_loud (refine HB1.out.mono ?_); rintro en w2 ⟨rfl, k4, t4⟩; have K2 := Lib.hid (K1d.out.gdT t4 k4); have T2 := Lib.hid (T1.out.drew.trans (smS_gd t4)); clear k4 t4))
  go_wp2
  go_ret
  exact ⟨rfl, K2.out, T2.out⟩
set_option maxRecDepth 100000 in
set_option maxHeartbeats 2000000 in
theorem looks6_r (h : SmIs 89 B BC w a g X c P T st d U) (hb : d.busy = true → d.at_ < (leavesL P).length) (ho : st.s.ops + 1 ≤ 1000000000000) : Calls Tryz.prog 164 #[.pointer (some ⟨X.l, 0, none⟩), .int .i64 6] w (NextOk 89 B BC w a g X c P T (onA st (drStep st.s d).1, (drStep st.s d).2.1, if (drStep st.s d).2.2 = false then 6 else if (6 : Int) = 6 then 8 else if (drStep st.s d).2.1.clear = true then 10 else 5) U) := by
  obtain ⟨r, hr⟩ : ∃ r, r = drStep st.s d := ⟨_, rfl⟩
  have HD0 := drStepW h.gd hb ho
  rw [← hr] at HD0 ⊢
  obtain ⟨s1, d1, q⟩ := r
  simp only at HD0 ⊢
  have HD := Lib.hid HD0
  have H := Lib.hid h
  clear h hr hb HD0
  cases q
  · go_enter Tryz.func164, Tryz.ntmps164
    have d3 := H.out.cs.2.2.2.1
    go_wp2_with fail
    refine HD.out.mono ?_
    rintro en w1 ⟨rfl, k4, t4⟩
    have K1 := Lib.hid (H.out.gdT t4 k4)
    have T1 := Lib.hid (smS_gd (X := X) t4)
    clear k4 t4
    go_wp2
    go_ret
    exact ⟨rfl, K1.out, T1.out⟩
  · go_enter Tryz.func164, Tryz.ntmps164
    have d3 := H.out.cs.2.2.2.1
    go_wp2_with fail
    refine HD.out.mono ?_
    rintro en w1 ⟨rfl, k4, t4⟩
    have K1 := Lib.hid (H.out.gdT t4 k4)
    have T1 := Lib.hid (smS_gd (X := X) t4)
    clear k4 t4
    go_wp2
    go_ret
    exact ⟨rfl, K1.out, T1.out⟩
set_option maxRecDepth 100000 in
set_option maxHeartbeats 2000000 in
theorem looks9_r (h : SmIs 89 B BC w a g X c P T st d U) (hb : d.busy = true → d.at_ < (leavesL P).length) (ho : st.s.ops + 1 ≤ 1000000000000) : Calls Tryz.prog 164 #[.pointer (some ⟨X.l, 0, none⟩), .int .i64 9] w (NextOk 89 B BC w a g X c P T (onA st (drStep st.s d).1, (drStep st.s d).2.1, if (drStep st.s d).2.2 = false then 9 else if (9 : Int) = 6 then 8 else if (drStep st.s d).2.1.clear = true then 10 else 5) U) := by
  obtain ⟨r, hr⟩ : ∃ r, r = drStep st.s d := ⟨_, rfl⟩
  have HD0 := drStepW h.gd hb ho
  rw [← hr] at HD0 ⊢
  obtain ⟨s1, d1, q⟩ := r
  simp only at HD0 ⊢
  have HD := Lib.hid HD0
  have H := Lib.hid h
  clear h hr hb HD0
  cases q
  · go_enter Tryz.func164, Tryz.ntmps164
    have d3 := H.out.cs.2.2.2.1
    go_wp2_with fail
    refine HD.out.mono ?_
    rintro en w1 ⟨rfl, k4, t4⟩
    have K1 := Lib.hid (H.out.gdT t4 k4)
    have T1 := Lib.hid (smS_gd (X := X) t4)
    clear k4 t4
    go_wp2
    go_ret
    exact ⟨rfl, K1.out, T1.out⟩
  · cases hc : d1.clear
    all_goals
      go_enter Tryz.func164, Tryz.ntmps164
      have d3 := H.out.cs.2.2.2.1
      go_wp2_with fail
      refine HD.out.mono ?_
      rintro en w1 ⟨rfl, k4, t4⟩
      have K1 := Lib.hid (H.out.gdT t4 k4)
      have T1 := Lib.hid (smS_gd (X := X) t4)
      have d4 := K1.out.cs.2.2.2.1
      clear k4 t4
      have HCl := Lib.hid (drClear K1.out.gd)
      rw [hc] at HCl
      go_wp2_with fail
      refine HCl.out.mono ?_
      rintro en w2 ⟨rfl, rfl⟩
      go_wp2
      go_ret
      unfold NextOk
      simp only [hc]
      exact ⟨rfl, K1.out, T1.out⟩
set_option maxRecDepth 100000 in
set_option maxHeartbeats 2000000 in
theorem writes7_r (h : SmIs 89 B BC w a g X c P T st d U) (n : Nat) (hn : n < T.length) (C : CoPre BB X.x c st) (ho : st.s.ops + 1 ≤ 1000000000000) : Calls Tryz.prog 163 #[.pointer (some ⟨X.l, 0, none⟩), .int .i64 n, .int .i64 7] w (NextOk 89 B BC w a g X c P T (coStep c st n, d, if cameK (sv st.T n) (sv (coStep c st n).T n) then 8 else 7) U) := by
  have hnx : n < X.x.n := by rw [h.nT.1]; exact hn
  have HS0 := stepCo h.co C n hnx
  obtain ⟨q, hq⟩ : ∃ q, q = cameK (sv st.T n) (sv (coStep c st n).T n) := ⟨_, rfl⟩
  rw [← hq] at HS0 ⊢
  have HS := Lib.hid HS0
  have l5 := h.cs.2.2.2.2.2.1
  have H := Lib.hid h
  clear h hq HS0
  cases q
  all_goals
    go_enter Tryz.func163, Tryz.ntmps163
    go_wp2_with fail
    refine HS.out.mono ?_
    rintro en w1 ⟨rfl, k3, t3⟩
    have K1 := Lib.hid (H.out.coT t3 k3)
    have T1 := Lib.hid (smS_co (X := X) t3)
    clear k3 t3
    go_wp2
    go_ret
    exact ⟨rfl, K1.out, T1.out⟩
set_option maxRecDepth 100000 in
set_option maxHeartbeats 2000000 in
theorem writes13_r (h : SmIs 89 B BC w a g X c P T st d U) (n : Nat) (hn : n < T.length) (C : CoPre BB X.x c st) (ho : st.s.ops + 1 ≤ 1000000000000) : Calls Tryz.prog 163 #[.pointer (some ⟨X.l, 0, none⟩), .int .i64 n, .int .i64 13] w (NextOk 89 B BC w a g X c P T (coStep c st n, d, if cameK (sv st.T n) (sv (coStep c st n).T n) then 0 else 13) U) := by
  have hnx : n < X.x.n := by rw [h.nT.1]; exact hn
  have HS0 := stepCo h.co C n hnx
  obtain ⟨q, hq⟩ : ∃ q, q = cameK (sv st.T n) (sv (coStep c st n).T n) := ⟨_, rfl⟩
  rw [← hq] at HS0 ⊢
  have HS := Lib.hid HS0
  have l5 := h.cs.2.2.2.2.2.1
  have H := Lib.hid h
  clear h hq HS0
  cases q
  all_goals
    go_enter Tryz.func163, Tryz.ntmps163
    go_wp2_with fail
    refine HS.out.mono ?_
    rintro en w1 ⟨rfl, k3, t3⟩
    have K1 := Lib.hid (H.out.coT t3 k3)
    have T1 := Lib.hid (smS_co (X := X) t3)
    clear k3 t3
    go_wp2
    go_ret
    exact ⟨rfl, K1.out, T1.out⟩
set_option maxRecDepth 100000 in
set_option maxHeartbeats 2000000 in
theorem writes12_r (h : SmIs 89 B BC w a g X c P T st d U) (n : Nat) (hn : n < T.length) (ho : st.s.ops + 1 ≤ 1000000000000) : Calls Tryz.prog 163 #[.pointer (some ⟨X.l, 0, none⟩), .int .i64 n, .int .i64 12] w (NextOk 89 B BC w a g X c P T (coLeave (onA st (storeA st.s (nuFl (leavesL P).length) 0)) n, d, 13) U) := by
  have hnx : n < X.x.n := by rw [h.nT.1]; exact hn
  have H := Lib.hid h
  clear h
  go_enter Tryz.func163, Tryz.ntmps163
  have K0 := H
  have T0 := Lib.hid (Turns.refl (SmS a g X) w)
  have K0d := Lib.hid K0.out.drw
  have HO0 := Lib.hid (store_any (K0d.out).gd.ar (nuFl (leavesL P).length) (0) ho)
  go_wp2_with fail
  go_region_held3 (fun W => W.cell? ⟨X.l, 0, none⟩ = some (.pointer (some ⟨a, 0, none⟩)) ∧ W.cell? ⟨X.l, 4, none⟩ = some (.int .i64 (2 * ((leavesL P).length : Int) + 1)))
    (first | exact ⟨K0d.out.cs.1, K0d.out.cs.2.2.2.2.1⟩ | exact ⟨K1.out.cs.1, K1.out.cs.2.2.2.2.1⟩)
    (first
      | (go_at_call 61; go_loud (refine HO0.out.mono ?_); rintro en w1 ⟨rfl, a3, t3⟩; have K1 := Lib.hid (K0d.out.arT t3 a3); have T1 := Lib.hid (T0.out.drew.trans (smS_ag t3)); clear a3 t3))
  have l5 := K1.out.cs.2.2.2.2.2.1
  go_wp2_with fail
  refine (leaveCo K1.out.co n hnx).mono ?_
  rintro en w2 ⟨rfl, k3, t3⟩
  have K2 := Lib.hid (K1.out.coT t3 k3)
  have T2 := Lib.hid (T1.out.trans (smS_co t3))
  clear k3 t3 l5
  go_wp2
  go_ret
  exact ⟨rfl, K2.out, T2.out⟩
set_option maxRecDepth 100000 in
theorem writes5_r (h : SmIs 89 B BC w a g X c P T st d U) (hN : 1 ≤ (leavesL P).length) (n : Nat) (ho : st.s.ops + 1 ≤ 1000000000000) : Calls Tryz.prog 163 #[.pointer (some ⟨X.l, 0, none⟩), .int .i64 n, .int .i64 5] w (NextOk 89 B BC w a g X c P T (onA st (storeA st.s (nuFl (leavesL P).length) 0), drBeg d (leavesL P).length false, 6) U) := by
  have HL0 := looks5_r h hN ho
  obtain ⟨r, hr⟩ : ∃ r : Co × Dr × Int, r = (onA st (storeA st.s (nuFl (leavesL P).length) 0), drBeg d (leavesL P).length false, 6) := ⟨_, rfl⟩
  rw [← hr] at HL0 ⊢
  have HL := Lib.hid HL0
  clear hr HL0 h
  go_enter Tryz.func163, Tryz.ntmps163
  go_wp2_with fail
  refine HL.out.mono ?_
  rintro en w1 ⟨rfl, k3, t3⟩
  have HK := Lib.hid (And.intro k3 t3)
  clear k3 t3
  go_wp2
  go_ret
  exact ⟨rfl, HK.out.1, HK.out.2⟩
set_option maxRecDepth 100000 in
theorem writes8_r (h : SmIs 89 B BC w a g X c P T st d U) (hN : 1 ≤ (leavesL P).length) (n : Nat) (ho : st.s.ops + 1 ≤ 1000000000000) : Calls Tryz.prog 163 #[.pointer (some ⟨X.l, 0, none⟩), .int .i64 n, .int .i64 8] w (NextOk 89 B BC w a g X c P T (onA st (storeA st.s (nuFl (leavesL P).length) 1), drBeg d (leavesL P).length true, 9) U) := by
  have HL0 := looks8_r h hN ho
  obtain ⟨r, hr⟩ : ∃ r : Co × Dr × Int, r = (onA st (storeA st.s (nuFl (leavesL P).length) 1), drBeg d (leavesL P).length true, 9) := ⟨_, rfl⟩
  rw [← hr] at HL0 ⊢
  have HL := Lib.hid HL0
  clear hr HL0 h
  go_enter Tryz.func163, Tryz.ntmps163
  go_wp2_with fail
  refine HL.out.mono ?_
  rintro en w1 ⟨rfl, k3, t3⟩
  have HK := Lib.hid (And.intro k3 t3)
  clear k3 t3
  go_wp2
  go_ret
  exact ⟨rfl, HK.out.1, HK.out.2⟩
set_option maxRecDepth 100000 in
theorem writes6_r (h : SmIs 89 B BC w a g X c P T st d U) (hb : d.busy = true → d.at_ < (leavesL P).length) (n : Nat) (ho : st.s.ops + 1 ≤ 1000000000000) : Calls Tryz.prog 163 #[.pointer (some ⟨X.l, 0, none⟩), .int .i64 n, .int .i64 6] w (NextOk 89 B BC w a g X c P T (onA st (drStep st.s d).1, (drStep st.s d).2.1, if (drStep st.s d).2.2 = false then 6 else if (6 : Int) = 6 then 8 else if (drStep st.s d).2.1.clear = true then 10 else 5) U) := by
  have HL0 := looks6_r h hb ho
  obtain ⟨r, hr⟩ : ∃ r : Co × Dr × Int, r = (onA st (drStep st.s d).1, (drStep st.s d).2.1, if (drStep st.s d).2.2 = false then 6 else if (6 : Int) = 6 then 8 else if (drStep st.s d).2.1.clear = true then 10 else 5) := ⟨_, rfl⟩
  rw [← hr] at HL0 ⊢
  have HL := Lib.hid HL0
  clear hr HL0 h
  go_enter Tryz.func163, Tryz.ntmps163
  go_wp2_with fail
  refine HL.out.mono ?_
  rintro en w1 ⟨rfl, k3, t3⟩
  have HK := Lib.hid (And.intro k3 t3)
  clear k3 t3
  go_wp2
  go_ret
  exact ⟨rfl, HK.out.1, HK.out.2⟩
set_option maxRecDepth 100000 in
theorem writes9_r (h : SmIs 89 B BC w a g X c P T st d U) (hb : d.busy = true → d.at_ < (leavesL P).length) (n : Nat) (ho : st.s.ops + 1 ≤ 1000000000000) : Calls Tryz.prog 163 #[.pointer (some ⟨X.l, 0, none⟩), .int .i64 n, .int .i64 9] w (NextOk 89 B BC w a g X c P T (onA st (drStep st.s d).1, (drStep st.s d).2.1, if (drStep st.s d).2.2 = false then 9 else if (9 : Int) = 6 then 8 else if (drStep st.s d).2.1.clear = true then 10 else 5) U) := by
  have HL0 := looks9_r h hb ho
  obtain ⟨r, hr⟩ : ∃ r : Co × Dr × Int, r = (onA st (drStep st.s d).1, (drStep st.s d).2.1, if (drStep st.s d).2.2 = false then 9 else if (9 : Int) = 6 then 8 else if (drStep st.s d).2.1.clear = true then 10 else 5) := ⟨_, rfl⟩
  rw [← hr] at HL0 ⊢
  have HL := Lib.hid HL0
  clear hr HL0 h
  go_enter Tryz.func163, Tryz.ntmps163
  go_wp2_with fail
  refine HL.out.mono ?_
  rintro en w1 ⟨rfl, k3, t3⟩
  have HK := Lib.hid (And.intro k3 t3)
  clear k3 t3
  go_wp2
  go_ret
  exact ⟨rfl, HK.out.1, HK.out.2⟩
end
end Go.Proofs.YtkennofbilmbcaaGreat
end
section
set_option linter.unusedVariables false
set_option linter.unusedSimpArgs false
/- Layer 37 (readers): Step, over the cohort lock. (printed by gen_sm67.py) -/
namespace Go.Proofs.YtkennofbilmbcaaGreat
open Go.RowKit

section
variable {B BC : Nat → Prop} {w w' w0 : World} {a g : Nat} {X : SmX} {c : CoC} {P T : List Int} {st st' : Co} {d d' : Dr} {U : List Sp} {s' : Ar} {BB : Int}
theorem step_r0 (h : SmIs 89 B BC w a g X c P T st d U) (n : Nat) (hn : n < T.length) (hc : (sv U n).pc = 0 ∨ (sv U n).pc = 10) : Calls Tryz.prog 159 #[.pointer (some ⟨X.l, 0, none⟩), .int .i64 n] w (SmAct 89 B BC w a g X c P T (rsStep c (leavesL P).length ⟨st, d, U⟩ n)) := by
  have hfp := field_pc
  have HS0 := spot_r h n
  have hp := h.thr hn
  have hg : getS U (n : Int) = sv U n := by
    unfold getS sv
    rw [if_pos ⟨by omega, by rw [h.lU]; omega⟩, Int.toNat_natCast]
  rw [hg] at HS0
  have H := Lib.hid h
  have t2 : ¬ (n : Int) < 0 := by omega
  have hn32 := h.nT.2.2.1
  have hx' : rsStep c (leavesL P).length ⟨st, d, U⟩ n = ⟨st, d, U⟩ := by
    unfold rsStep
    rw [if_pos hc]
  obtain ⟨p, hpp⟩ : ∃ p, p = sv U n := ⟨_, rfl⟩
  rw [← hpp] at hc HS0
  have HS := Lib.hid HS0
  have HX := Lib.hid hx'
  clear h hp hpp hx' hg HS0
  obtain ⟨pc, u, b, z⟩ := p
  simp only at hc
  unfold spotV at HS
  rcases hc with rfl | rfl
  all_goals
    go_enter Tryz.func159, Tryz.ntmps159
    go_wp2_with fail
    refine HS.out.mono ?_
    rintro en w1 ⟨rfl, b1⟩
    have HB := Lib.hid b1
    clear b1
    go_wp2
    go_ret
    rw [HX.out]
    exact ⟨_, rfl, (H.out.below HB.out).below ((Below.refl _ _).alloc (Nat.le_refl _) _), (Turns.of_below HB.out).alloc _⟩
theorem step_r_out (h : SmIs 89 B BC w a g X c P T st d U) (i : Int) (hok : ¬ okI U i) : Calls Tryz.prog 159 #[.pointer (some ⟨X.l, 0, none⟩), .int .i64 i] w (SmAct 89 B BC w a g X c P T ⟨st, d, U⟩) := by
  have hfp := field_pc
  have HS0 := spot_r h i
  rw [getS_out hok] at HS0
  have HS := Lib.hid HS0
  have H := Lib.hid h
  clear h hok HS0
  unfold spotV Sp.zero at HS
  go_enter Tryz.func159, Tryz.ntmps159
  go_wp2_with fail
  refine HS.out.mono ?_
  rintro en w1 ⟨rfl, b1⟩
  have HB := Lib.hid b1
  clear b1
  go_wp2
  go_ret
  exact ⟨_, rfl, (H.out.below HB.out).below ((Below.refl _ _).alloc (Nat.le_refl _) _), (Turns.of_below HB.out).alloc _⟩
set_option maxRecDepth 100000 in
set_option maxHeartbeats 4000000 in
theorem step_r_a1 (h : SmIs 89 B BC w a g X c P T st d U) (n : Nat) (hn : n < T.length) (pc b z : Int) (hU : sv U n = ⟨pc, 1, b, z⟩) (hc : pc ≠ 0 ∧ pc ≠ 10)
    (hD : ∀ W, SmIs 89 B BC W a g X c P T st d U → Calls Tryz.prog 162 #[.pointer (some ⟨X.l, 0, none⟩), .int .i64 pc, .int .i64 (c.node n : Nat)] W (NextOk 89 B BC W a g X c P T (rsDoes c (leavesL P).length ⟨st, d, U⟩ n ⟨pc, 1, b, z⟩) U)) : Calls Tryz.prog 159 #[.pointer (some ⟨X.l, 0, none⟩), .int .i64 n] w (SmAct 89 B BC w a g X c P T (rsStep c (leavesL P).length ⟨st, d, U⟩ n)) := by
  have hfp := field_pc
  have HS0 := spot_r h n
  have hp := h.thr hn
  have hg : getS U (n : Int) = sv U n := by
    unfold getS sv
    rw [if_pos ⟨by omega, by rw [h.lU]; omega⟩, Int.toNat_natCast]
  rw [hg] at HS0
  have H := Lib.hid h
  have t2 : ¬ (n : Int) < 0 := by omega
  have hn32 := h.nT.2.2.1
  obtain ⟨r, hr⟩ : ∃ r, r = rsDoes c (leavesL P).length ⟨st, d, U⟩ n ⟨pc, 1, b, z⟩ := ⟨_, rfl⟩
  have hx' : rsStep c (leavesL P).length ⟨st, d, U⟩ n = ⟨r.1, r.2.1, U.set n ⟨r.2.2, 1, b, z⟩⟩ := by
    unfold rsStep
    rw [if_neg (by rw [hU]; simp only; omega), hr, hU]
  rw [← hr] at hD
  rw [hU] at hp HS0
  obtain ⟨s1, d1, v⟩ := r
  simp only at hx'
  have u0 : (pc == 0) = false := by simpa using hc.1
  have u1 : (pc == 10) = false := by simpa using hc.2
  obtain ⟨hnd, hnn⟩ := h.nodeA hn
  obtain ⟨nd, hnde⟩ : ∃ nd, nd = c.node n := ⟨_, rfl⟩
  rw [← hnde] at hnn hnd hD
  have HN0 := Lib.hid hnn
  have HX := Lib.hid hx'
  have HS := Lib.hid HS0
  have HP := Lib.hid hp
  have HD := Lib.hid hD
  clear h hp hx' hg HS0 hD hr hU hc hnd hnn hnde
  unfold spotV at HS
  cases v1 : (v == 10) <;> cases v2 : (v == 0)
  all_goals
    go_enter Tryz.func159, Tryz.ntmps159
    go_wp2_with fail
    refine HS.out.mono ?_
    rintro en w1 ⟨rfl, b1⟩
    have K1 := Lib.hid (H.out.below b1)
    have T1 := Lib.hid (Turns.of_below (S := SmS a g X) b1)
    clear b1
    go_upto_region 2 with fail
    obtain ⟨sb, hsb⟩ : ∃ y, y = w1.heap.size := ⟨_, rfl⟩
    obtain ⟨wa, hwa⟩ : ∃ W, W = w1.alloc (.cells #[.int .i64 pc, .int .i64 1, .int .i64 b, .int .i64 z] 35) := ⟨_, rfl⟩
    rw [← hwa, ← hsb]
    have HA1 := Lib.hid (show SmIs 89 B BC wa a g X c P T st d U ∧ Turns (SmS a g X) w wa ∧ Blk wa sb 35 #[.int .i64 pc, .int .i64 1, .int .i64 b, .int .i64 z] ∧ sb ∉ SmS a g X from ⟨by rw [hwa]; exact (K1.out).below ((Below.refl _ _).alloc (Nat.le_refl _) _), by rw [hwa]; exact T1.out.alloc _, by rw [hwa, hsb]; exact Blk.new _ _ _, fun k => by have := K1.out.ltsA _ k; omega⟩)
    clear hwa hsb K1 T1
    have v0 : wa.cell? ⟨sb, 0, none⟩ = some (.int .i64 pc) := HA1.out.2.2.1.cell 0
    have va : wa.cell? ⟨sb, 1, none⟩ = some (.int .i64 1) := HA1.out.2.2.1.cell 1
    have l1 : wa.cell? ⟨X.l, 1, none⟩ = some (.pointer (some ⟨X.b, 0, none⟩)) := HA1.out.1.cs.2.1
    have K1d := Lib.hid HA1.out.1.drw
    have HNd := Lib.hid (nodeF wa.drew X.b P T n hn K1d.out.tb.f nd HN0.out)
    have HRe := Lib.hid (HD.out _ K1d.out)
    have HC := Lib.hid (fun W (st : Co) (d : Dr) (k : SmIs 89 B BC W a g X c P T st d U) (hb : Blk W sb 35 #[.int .i64 pc, .int .i64 1, .int .i64 b, .int .i64 z]) => And.intro (show W.cell? ⟨sb, 0, none⟩ = some (.int .i64 pc) from hb.cell 0) k.cs.2.1)
    go_wp2_with fail
    go_region_held3 (fun W => W.cell? ⟨sb, 0, none⟩ = some (.int .i64 pc) ∧ W.cell? ⟨X.l, 1, none⟩ = some (.pointer (some ⟨X.b, 0, none⟩)))
      (first | exact ⟨v0, l1⟩ | exact M3.out)
      (first
        | (go_at_call 116; go_loud (refine HNd.out.mono ?_); rintro en w2 ⟨rfl, rfl⟩)
        | (go_at_call 162; go_loud (refine HRe.out.mono ?_); rintro en w3 ⟨rfl, k3, t3⟩; have M3 := Lib.hid (HC.out _ _ _ k3 ((((Turns.refl (SmS a g X) wa).drew).trans t3).blk HA1.out.2.2.1 HA1.out.2.2.2)); have K3 := Lib.hid k3; have T3 := Lib.hid (HA1.out.2.1.drew.trans t3); clear k3 t3))
  all_goals
    have e0 := K3.out.sp.cell HP.out 0 _ rfl
    have z0 := K3.out.sp.free (n * 4)
    have d6 := K3.out.cs.2.2.2.2.2.2
    simp only [Nat.add_zero] at e0
    have K4 := Lib.hid (K3.out.put0 HP.out (p' := (⟨v, 1, b, z⟩ : Sp)) (u := .int .i64 v) rfl)
    go_wp2
    go_ret
    rw [HX.out]
    exact ⟨_, rfl, K4.out, T3.out.trans (smS_q _ _)⟩
set_option maxRecDepth 100000 in
set_option maxHeartbeats 4000000 in
theorem step_r_a0 (h : SmIs 89 B BC w a g X c P T st d U) (n : Nat) (hn : n < T.length) (pc b z : Int) (hU : sv U n = ⟨pc, 0, b, z⟩) (hc : pc ≠ 0 ∧ pc ≠ 10)
    (hD : ∀ W, SmIs 89 B BC W a g X c P T st d U → Calls Tryz.prog 163 #[.pointer (some ⟨X.l, 0, none⟩), .int .i64 n, .int .i64 pc] W (NextOk 89 B BC W a g X c P T (rsDoes c (leavesL P).length ⟨st, d, U⟩ n ⟨pc, 0, b, z⟩) U)) : Calls Tryz.prog 159 #[.pointer (some ⟨X.l, 0, none⟩), .int .i64 n] w (SmAct 89 B BC w a g X c P T (rsStep c (leavesL P).length ⟨st, d, U⟩ n)) := by
  have hfp := field_pc
  have HS0 := spot_r h n
  have hp := h.thr hn
  have hg : getS U (n : Int) = sv U n := by
    unfold getS sv
    rw [if_pos ⟨by omega, by rw [h.lU]; omega⟩, Int.toNat_natCast]
  rw [hg] at HS0
  have H := Lib.hid h
  have t2 : ¬ (n : Int) < 0 := by omega
  have hn32 := h.nT.2.2.1
  obtain ⟨r, hr⟩ : ∃ r, r = rsDoes c (leavesL P).length ⟨st, d, U⟩ n ⟨pc, 0, b, z⟩ := ⟨_, rfl⟩
  have hx' : rsStep c (leavesL P).length ⟨st, d, U⟩ n = ⟨r.1, r.2.1, U.set n ⟨r.2.2, 0, b, z⟩⟩ := by
    unfold rsStep
    rw [if_neg (by rw [hU]; simp only; omega), hr, hU]
  rw [← hr] at hD
  rw [hU] at hp HS0
  obtain ⟨s1, d1, v⟩ := r
  simp only at hx'
  have u0 : (pc == 0) = false := by simpa using hc.1
  have u1 : (pc == 10) = false := by simpa using hc.2
  have HX := Lib.hid hx'
  have HS := Lib.hid HS0
  have HP := Lib.hid hp
  have HD := Lib.hid hD
  clear h hp hx' hg HS0 hD hr hU hc
  unfold spotV at HS
  cases v1 : (v == 10) <;> cases v2 : (v == 0)
  all_goals
    go_enter Tryz.func159, Tryz.ntmps159
    go_wp2_with fail
    refine HS.out.mono ?_
    rintro en w1 ⟨rfl, b1⟩
    have K1 := Lib.hid (H.out.below b1)
    have T1 := Lib.hid (Turns.of_below (S := SmS a g X) b1)
    clear b1
    go_upto_region 2 with fail
    obtain ⟨sb, hsb⟩ : ∃ y, y = w1.heap.size := ⟨_, rfl⟩
    obtain ⟨wa, hwa⟩ : ∃ W, W = w1.alloc (.cells #[.int .i64 pc, .int .i64 0, .int .i64 b, .int .i64 z] 35) := ⟨_, rfl⟩
    rw [← hwa, ← hsb]
    have HA1 := Lib.hid (show SmIs 89 B BC wa a g X c P T st d U ∧ Turns (SmS a g X) w wa ∧ Blk wa sb 35 #[.int .i64 pc, .int .i64 0, .int .i64 b, .int .i64 z] ∧ sb ∉ SmS a g X from ⟨by rw [hwa]; exact (K1.out).below ((Below.refl _ _).alloc (Nat.le_refl _) _), by rw [hwa]; exact T1.out.alloc _, by rw [hwa, hsb]; exact Blk.new _ _ _, fun k => by have := K1.out.ltsA _ k; omega⟩)
    clear hwa hsb K1 T1
    have v0 : wa.cell? ⟨sb, 0, none⟩ = some (.int .i64 pc) := HA1.out.2.2.1.cell 0
    have va : wa.cell? ⟨sb, 1, none⟩ = some (.int .i64 0) := HA1.out.2.2.1.cell 1
    go_wp2_with fail
    refine (HD.out _ HA1.out.1).mono ?_
    rintro en w3 ⟨rfl, k3, t3⟩
    have K3 := Lib.hid k3
    have T3 := Lib.hid (HA1.out.2.1.trans t3)
    clear k3 t3
  all_goals
    have e0 := K3.out.sp.cell HP.out 0 _ rfl
    have z0 := K3.out.sp.free (n * 4)
    have d6 := K3.out.cs.2.2.2.2.2.2
    simp only [Nat.add_zero] at e0
    have K4 := Lib.hid (K3.out.put0 HP.out (p' := (⟨v, 0, b, z⟩ : Sp)) (u := .int .i64 v) rfl)
    go_wp2
    go_ret
    rw [HX.out]
    exact ⟨_, rfl, K4.out, T3.out.trans (smS_q _ _)⟩
theorem step_rAll (h : SmIs 89 B BC w a g X c P T st d U) (n : Nat) (hn : n < T.length) (hc : linkR (sv U n) (sv st.T n)) (ho : st.s.ops + 1 ≤ 1000000000000) (hN : 1 ≤ (leavesL P).length) (hb : ((sv U n).a = 0 → ((sv U n).pc = 9 ∨ (sv U n).pc = 6) → d.busy = true → d.at_ < (leavesL P).length)) (C : CoPre BB X.x c st) :
    Calls Tryz.prog 159 #[.pointer (some ⟨X.l, 0, none⟩), .int .i64 n] w (SmAct 89 B BC w a g X c P T (rsStep c (leavesL P).length ⟨st, d, U⟩ n)) := by
  obtain ⟨p, hpp⟩ : ∃ p, p = sv U n := ⟨_, rfl⟩
  have hcs : p.pc = 0 ∨ p.pc = 10 ∨ (p.a = 1 ∧ p.pc = 1) ∨ (p.a = 1 ∧ p.pc = 2) ∨ (p.a = 1 ∧ p.pc = 11) ∨ (p.a = 0 ∧ p.pc = 7) ∨ (p.a = 0 ∧ p.pc = 5) ∨ (p.a = 0 ∧ p.pc = 6) ∨ (p.a = 0 ∧ p.pc = 8) ∨ (p.a = 0 ∧ p.pc = 9) ∨ (p.a = 0 ∧ p.pc = 12) ∨ (p.a = 0 ∧ p.pc = 13) := by
    rw [← hpp] at hc
    unfold linkR at hc
    rcases hc with ⟨q1, _⟩ | ⟨q1, q2, _⟩ | ⟨q1, q2, _⟩ | ⟨q1, q2, _⟩ | ⟨q1, q2, _⟩
    all_goals omega
  have hb' := hb
  rw [← hpp] at hb'
  obtain ⟨pc, u, b, z⟩ := p
  have hpc : (sv U n).pc = pc := by rw [← hpp]
  simp only at hcs hb'
  have hnd := h.nodeA hn
  rcases hcs with rfl | rfl | ⟨rfl, rfl⟩ | ⟨rfl, rfl⟩ | ⟨rfl, rfl⟩ | ⟨rfl, rfl⟩ | ⟨rfl, rfl⟩ | ⟨rfl, rfl⟩ | ⟨rfl, rfl⟩ | ⟨rfl, rfl⟩ | ⟨rfl, rfl⟩ | ⟨rfl, rfl⟩
  · exact step_r0 h n hn (.inl hpc)
  · exact step_r0 h n hn (.inr hpc)
  · exact step_r_a1 h n hn _ b z hpp.symm (by decide) (fun W k => reads1_r k hnd.1 ho)
  · exact step_r_a1 h n hn _ b z hpp.symm (by decide) (fun W k => reads2_r k (c.node n) ho)
  · refine step_r_a1 h n hn _ b z hpp.symm (by decide) (fun W k => ?_)
    have k9 := reads11_r k hnd.1 ho
    rw [show 2 * ((c.node n : Nat) : Int) + 1 + 1 = gaW (c.node n) by unfold gaW; omega] at k9
    exact k9
  · exact step_r_a0 h n hn _ b z hpp.symm (by decide) (fun W k => writes7_r k n hn C ho)
  · exact step_r_a0 h n hn _ b z hpp.symm (by decide) (fun W k => writes5_r k hN n ho)
  · exact step_r_a0 h n hn _ b z hpp.symm (by decide) (fun W k => writes6_r k (hb' rfl (.inr rfl)) n ho)
  · exact step_r_a0 h n hn _ b z hpp.symm (by decide) (fun W k => writes8_r k hN n ho)
  · exact step_r_a0 h n hn _ b z hpp.symm (by decide) (fun W k => writes9_r k (hb' rfl (.inl rfl)) n ho)
  · exact step_r_a0 h n hn _ b z hpp.symm (by decide) (fun W k => writes12_r k n hn ho)
  · exact step_r_a0 h n hn _ b z hpp.symm (by decide) (fun W k => writes13_r k n hn C ho)
end
end Go.Proofs.YtkennofbilmbcaaGreat
end
section
set_option linter.unusedVariables false
set_option linter.unusedSimpArgs false
/- Layer 39 (rw): acts of readers over the cohort lock, and the states behind them. (printed by gen_rw.py) -/
namespace Go.Proofs.YtkennofbilmbcaaGreat
open Go.RowKit

section
variable {B BC : Nat → Prop} {w w' : World} {a g : Nat} {X : SmX} {c : CoC} {P T : List Int} {st : Co} {d : Dr} {U : List Sp} {L : Nat} {BB : Int}
theorem stepI_r (h : SmIs 89 B BC w a g X c P T st d U) (hs : RsS c T.length (leavesL P).length L (mtQ P T) BB ⟨st, d, U⟩) (hk : NuK c T.length (leavesL P).length L (mtQ P T)) (hB : 40 ≤ BB ∧ BB ≤ 10000000000) (ho : st.s.ops + 1 ≤ 1000000000000) (i : Int) :
    Calls Tryz.prog 159 #[.pointer (some ⟨X.l, 0, none⟩), .int .i64 i] w (SmAct 89 B BC w a g X c P T (actRs c (leavesL P).length ⟨st, d, U⟩ 0 i)) := by
  unfold actRs
  by_cases hok : okI U i
  · rw [if_pos hok]
    obtain ⟨h0, h1⟩ := id hok
    rw [h.lU] at h1
    obtain ⟨n, rfl⟩ := Int.eq_ofNat_of_zero_le h0
    have hn : n < T.length := by omega
    have C := CoOk.pre (x := X.x) (by rw [h.nT.1]; exact hs.ok) (by rw [h.nT.1, h.nT.2.1]; exact hk.w) h.co.fx hB.1 hB.2 ho
    exact step_rAll h n hn (hs.i.k n hn) ho hk.N1 (fun _ _ hb => (hs.dok hb).1) C
  · rw [if_neg hok]
    exact step_r_out h i hok
theorem askFI_r (h : SmIs 89 B BC w a g X c P T st d U) (hs : RsS c T.length (leavesL P).length L (mtQ P T) BB ⟨st, d, U⟩) (hk : NuK c T.length (leavesL P).length L (mtQ P T)) (hB : 40 ≤ BB ∧ BB ≤ 10000000000) (ho : st.s.ops + 1 ≤ 1000000000000) (i : Int) :
    Calls Tryz.prog 155 #[.pointer (some ⟨X.l, 0, none⟩), .int .i64 i, .bool false] w (SmAct 89 B BC w a g X c P T (actRs c (leavesL P).length ⟨st, d, U⟩ 1 i)) := by
  unfold actRs
  by_cases hok : okI U i
  · rw [if_pos hok]
    obtain ⟨h0, h1⟩ := id hok
    rw [h.lU] at h1
    obtain ⟨n, rfl⟩ := Int.eq_ofNat_of_zero_le h0
    have hn : n < T.length := by omega
    exact ask_r h n hn false
  · rw [if_neg hok]
    exact ask_r_out h i hok false
theorem leaveI_r (h : SmIs 89 B BC w a g X c P T st d U) (hs : RsS c T.length (leavesL P).length L (mtQ P T) BB ⟨st, d, U⟩) (hk : NuK c T.length (leavesL P).length L (mtQ P T)) (hB : 40 ≤ BB ∧ BB ≤ 10000000000) (ho : st.s.ops + 1 ≤ 1000000000000) (i : Int) :
    Calls Tryz.prog 156 #[.pointer (some ⟨X.l, 0, none⟩), .int .i64 i] w (SmAct 89 B BC w a g X c P T (actRs c (leavesL P).length ⟨st, d, U⟩ 2 i)) := by
  unfold actRs
  by_cases hok : okI U i
  · rw [if_pos hok]
    obtain ⟨h0, h1⟩ := id hok
    rw [h.lU] at h1
    obtain ⟨n, rfl⟩ := Int.eq_ofNat_of_zero_le h0
    have hn : n < T.length := by omega
    refine leave_r h n hn (fun h10 => ?_)
    have hl := hs.i.k n hn
    unfold linkR at hl
    simp only at hl
    omega
  · rw [if_neg hok]
    exact leave_r_out h i hok
theorem askTI_r (h : SmIs 89 B BC w a g X c P T st d U) (hs : RsS c T.length (leavesL P).length L (mtQ P T) BB ⟨st, d, U⟩) (hk : NuK c T.length (leavesL P).length L (mtQ P T)) (hB : 40 ≤ BB ∧ BB ≤ 10000000000) (ho : st.s.ops + 1 ≤ 1000000000000) (i : Int) :
    Calls Tryz.prog 155 #[.pointer (some ⟨X.l, 0, none⟩), .int .i64 i, .bool true] w (SmAct 89 B BC w a g X c P T (actRs c (leavesL P).length ⟨st, d, U⟩ 3 i)) := by
  unfold actRs
  by_cases hok : okI U i
  · rw [if_pos hok]
    obtain ⟨h0, h1⟩ := id hok
    rw [h.lU] at h1
    obtain ⟨n, rfl⟩ := Int.eq_ofNat_of_zero_le h0
    have hn : n < T.length := by omega
    exact ask_r h n hn true
  · rw [if_neg hok]
    exact ask_r_out h i hok true
end
structure SmStR (w0 w : World) (B BC : Nat → Prop) (a g : Nat) (X : SmX) (c : CoC) (P T : List Int) (L : Nat) (x : Nu) (BB : Int) (M : Nat) : Prop where
  is : SmIs 89 B BC w a g X c P T x.st x.d x.U
  s : RsS c T.length (leavesL P).length L (mtQ P T) BB x
  bel : Below w0.heap.size w0 w
  hl : ∀ i ∈ SmS a g X, w0.heap.size ≤ i
  op : x.st.s.ops ≤ M
theorem SmStR.below {w0 w w' : World} {B BC : Nat → Prop} {a g : Nat} {X : SmX} {c : CoC} {P T : List Int} {L M : Nat} {x : Nu} {BB : Int} (h : SmStR w0 w B BC a g X c P T L x BB M) (k : Below w.heap.size w w') : SmStR w0 w' B BC a g X c P T L x BB M := ⟨h.is.below k, h.s, h.bel.trans (k.mono h.bel.size), h.hl, h.op⟩
/-- an act -/
theorem SmStR.act {w0 w w' : World} {B BC : Nat → Prop} {a g : Nat} {X : SmX} {c : CoC} {P T : List Int} {L M : Nat} {x : Nu} {BB : Int} (h : SmStR w0 w B BC a g X c P T L x BB M) (hk : NuK c T.length (leavesL P).length L (mtQ P T)) (hB : 40 ≤ BB ∧ BB ≤ 10000000000) {kd i : Int} (k : SmIs 89 B BC w' a g X c P T (actRs c (leavesL P).length x kd i).st (actRs c (leavesL P).length x kd i).d (actRs c (leavesL P).length x kd i).U) (t : Turns (SmS a g X) w w') :
    SmStR w0 w' B BC a g X c P T L (actRs c (leavesL P).length x kd i) (BB + 4) (M + 1) ∧ (actRs c (leavesL P).length x kd i).st.s.ops ≤ x.st.s.ops + 1 ∧ (kd ≠ 0 → (actRs c (leavesL P).length x kd i).st.s.ops = x.st.s.ops) := by
  have q := h.s.act hk hB.1 (by omega) kd i
  exact ⟨⟨k, q.1, h.bel.trans (t.below h.hl h.bel.size), h.hl, by have := h.op; omega⟩, q.2⟩
end Go.Proofs.YtkennofbilmbcaaGreat
end
