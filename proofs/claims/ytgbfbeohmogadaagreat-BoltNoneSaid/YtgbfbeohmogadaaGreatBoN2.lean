/- The walk of BoltNone. -/
import Derived.Test.YtgbfbeohmogadaaGreatBoN1
import Derived.Test.YtgbfbeohmogadaaGreatAw4
namespace Go.Proofs.YtgbfbeohmogadaaGreat
open Go.RowKit

structure BoIs (w wr : World) (k i m : Int) : Prop where
  bel : Below w.heap.size w wr
  act : Blk wr w.heap.size 71 #[.int .i64 k, .int .i64 i, .int .i64 m]
  zero : Blk wr (w.heap.size + 1) 75 #[.pointer none, .bool false, .slice none 0 0]
theorem BoIs.below {w wr w' : World} {k i m : Int} (h : BoIs w wr k i m) (b : Below wr.heap.size wr w') : BoIs w w' k i m := ⟨h.bel.trans (b.mono h.bel.size), h.act.below b h.act.lt, h.zero.below b h.zero.lt⟩
theorem BoIs.z {w wr : World} {k i m : Int} (h : BoIs w wr k i m) {x : Option Nat} (hx : x = none ∨ x = some (w.heap.size + 1)) : BtZ wr x := by
  rcases hx with rfl | rfl
  · exact BtZ.none _
  · intro b hb; injection hb with hb; subst hb; exact h.zero
set_option maxRecDepth 100000 in
set_option maxHeartbeats 8000000 in
theorem none47 (w : World) (k i m : Int) : Calls Tryz.prog 7 #[.agg #[.int .i64 k, .int .i64 i, .int .i64 m]] w fun e w' => e = .returned (.bool true) ∧ Below w.heap.size w w' := by
  have hB : Below w.heap.size w ((w.alloc (.cells #[.int .i64 k, .int .i64 i, .int .i64 m] 71)).alloc (.cells #[.pointer none, .bool false, .slice none 0 0] 75)) := ((Below.refl _ _).alloc (Nat.le_refl _) _).alloc (by simp) _
  have h0 : BoIs w ((w.alloc (.cells #[.int .i64 k, .int .i64 i, .int .i64 m] 71)).alloc (.cells #[.pointer none, .bool false, .slice none 0 0] 75)) k i m := by
    have a1 := Blk.new w 71 #[.int .i64 k, .int .i64 i, .int .i64 m]
    have a2 := Blk.new (w.alloc (.cells #[.int .i64 k, .int .i64 i, .int .i64 m] 71)) 75 #[.pointer none, .bool false, .slice none 0 0]
    exact ⟨hB, a1.alloc _, by simpa using a2⟩
  have H0 := Lib.hid h0
  clear hB h0
  by_cases hl : k < 1
  · have HWT : Hid (wantE k = 7) := Lib.hid (by unfold wantE; rw [if_neg (by omega)])
    go_enter Tryz.func7, Tryz.ntmps7
    go_wp2
    go_loopw [21] (fun s wr => ∃ z : Int, s = .int .i64 z ∧ (z = 0 ∨ z = 1 ∨ z = 2) ∧ BoIs w wr k i m) (fun s _ => 2 - (intOf s).toNat)
    case atStart => exact ⟨0, rfl, .inl rfl, H0.out⟩
    case round =>
      clear H0
      obtain ⟨z, rfl, hz, hN⟩ := hrel
      obtain ⟨wo, rfl⟩ : ∃ wo : World, wo = wr := ⟨_, rfl⟩
      have c0 := hN.act.cell 0
      have c1 := hN.act.cell 1
      have c2 := hN.act.cell 2
      have HN := Lib.hid hN
      clear hN
      have ix0 : ∀ W, (Instr.index 76 (.agg #[.pointer none, .pointer (some ⟨w.heap.size + 1, 0, none⟩)]) (.int .i64 0)).run Tryz.prog W = .ok (.pointer none) W := fun _ => by kernel_rfl
      have ix1 : ∀ W, (Instr.index 76 (.agg #[.pointer none, .pointer (some ⟨w.heap.size + 1, 0, none⟩)]) (.int .i64 1)).run Tryz.prog W = .ok (.pointer (some ⟨w.heap.size + 1, 0, none⟩)) W := fun _ => by kernel_rfl
      rcases hz with rfl | rfl | rfl
      · obtain ⟨x, hx, hpx⟩ : ∃ x : Option Nat, (x = none ∨ x = some (w.heap.size + 1)) ∧ boltV x = .pointer none := ⟨none, .inl rfl, rfl⟩
        have HP := Lib.hid hpx
        have HX := Lib.hid hx
        clear hx hpx
        have C1 := Lib.hid (fun W (h : BoIs w W k i m) => doZ W x k i m (h.z HX.out))
        have C2 := Lib.hid (fun W (h : BoIs w W k i m) => traceZ W x (h.z HX.out))
        have C3 := Lib.hid (fun W (h : BoIs w W k i m) => wordsZ W x (h.z HX.out))
        rw [HP.out] at C1 C2 C3
        rw [HWT.out] at C1
        go_wp2_with fail
        refine (C1.out _ HN.out).mono ?_
        rintro en w2 ⟨rfl, b1⟩
        have H1 := Lib.hid (HN.out.below b1)
        clear b1
        go_wp2_with fail
        refine (C2.out _ H1.out).mono ?_
        rintro en w3 ⟨rfl, b2⟩
        have H2 := Lib.hid (H1.out.below b2)
        clear b2
        go_wp2_with fail
        refine (C3.out _ H2.out).mono ?_
        rintro en w4 ⟨rfl, rfl⟩
        go_wp2
        go_roundw
        case rel => exact ⟨1, by go_num, by omega, H2.out⟩
        case measure => simp [intOf]
      · obtain ⟨x, hx, hpx⟩ : ∃ x : Option Nat, (x = none ∨ x = some (w.heap.size + 1)) ∧ boltV x = .pointer (some ⟨w.heap.size + 1, 0, none⟩) := ⟨some (w.heap.size + 1), .inr rfl, rfl⟩
        have HP := Lib.hid hpx
        have HX := Lib.hid hx
        clear hx hpx
        have C1 := Lib.hid (fun W (h : BoIs w W k i m) => doZ W x k i m (h.z HX.out))
        have C2 := Lib.hid (fun W (h : BoIs w W k i m) => traceZ W x (h.z HX.out))
        have C3 := Lib.hid (fun W (h : BoIs w W k i m) => wordsZ W x (h.z HX.out))
        rw [HP.out] at C1 C2 C3
        rw [HWT.out] at C1
        go_wp2_with fail
        refine (C1.out _ HN.out).mono ?_
        rintro en w2 ⟨rfl, b1⟩
        have H1 := Lib.hid (HN.out.below b1)
        clear b1
        go_wp2_with fail
        refine (C2.out _ H1.out).mono ?_
        rintro en w3 ⟨rfl, b2⟩
        have H2 := Lib.hid (H1.out.below b2)
        clear b2
        go_wp2_with fail
        refine (C3.out _ H2.out).mono ?_
        rintro en w4 ⟨rfl, rfl⟩
        go_wp2
        go_roundw
        case rel => exact ⟨2, by go_num, by omega, H2.out⟩
        case measure => simp [intOf]
      · go_wp2_with fail
        refine (awake47 _).mono ?_
        rintro en w2 ⟨rfl, b2⟩
        have H2 := Lib.hid (HN.out.bel.trans (b2.mono HN.out.bel.size))
        clear b2
        go_wp2
        go_ret
        exact ⟨rfl, H2.out⟩
  by_cases hg : 4 < k
  · have HWT : Hid (wantE k = 7) := Lib.hid (by unfold wantE; rw [if_neg (by omega)])
    go_enter Tryz.func7, Tryz.ntmps7
    go_wp2
    go_loopw [21] (fun s wr => ∃ z : Int, s = .int .i64 z ∧ (z = 0 ∨ z = 1 ∨ z = 2) ∧ BoIs w wr k i m) (fun s _ => 2 - (intOf s).toNat)
    case atStart => exact ⟨0, rfl, .inl rfl, H0.out⟩
    case round =>
      clear H0
      obtain ⟨z, rfl, hz, hN⟩ := hrel
      obtain ⟨wo, rfl⟩ : ∃ wo : World, wo = wr := ⟨_, rfl⟩
      have c0 := hN.act.cell 0
      have c1 := hN.act.cell 1
      have c2 := hN.act.cell 2
      have HN := Lib.hid hN
      clear hN
      have ix0 : ∀ W, (Instr.index 76 (.agg #[.pointer none, .pointer (some ⟨w.heap.size + 1, 0, none⟩)]) (.int .i64 0)).run Tryz.prog W = .ok (.pointer none) W := fun _ => by kernel_rfl
      have ix1 : ∀ W, (Instr.index 76 (.agg #[.pointer none, .pointer (some ⟨w.heap.size + 1, 0, none⟩)]) (.int .i64 1)).run Tryz.prog W = .ok (.pointer (some ⟨w.heap.size + 1, 0, none⟩)) W := fun _ => by kernel_rfl
      rcases hz with rfl | rfl | rfl
      · obtain ⟨x, hx, hpx⟩ : ∃ x : Option Nat, (x = none ∨ x = some (w.heap.size + 1)) ∧ boltV x = .pointer none := ⟨none, .inl rfl, rfl⟩
        have HP := Lib.hid hpx
        have HX := Lib.hid hx
        clear hx hpx
        have C1 := Lib.hid (fun W (h : BoIs w W k i m) => doZ W x k i m (h.z HX.out))
        have C2 := Lib.hid (fun W (h : BoIs w W k i m) => traceZ W x (h.z HX.out))
        have C3 := Lib.hid (fun W (h : BoIs w W k i m) => wordsZ W x (h.z HX.out))
        rw [HP.out] at C1 C2 C3
        rw [HWT.out] at C1
        go_wp2_with fail
        refine (C1.out _ HN.out).mono ?_
        rintro en w2 ⟨rfl, b1⟩
        have H1 := Lib.hid (HN.out.below b1)
        clear b1
        go_wp2_with fail
        refine (C2.out _ H1.out).mono ?_
        rintro en w3 ⟨rfl, b2⟩
        have H2 := Lib.hid (H1.out.below b2)
        clear b2
        go_wp2_with fail
        refine (C3.out _ H2.out).mono ?_
        rintro en w4 ⟨rfl, rfl⟩
        go_wp2
        go_roundw
        case rel => exact ⟨1, by go_num, by omega, H2.out⟩
        case measure => simp [intOf]
      · obtain ⟨x, hx, hpx⟩ : ∃ x : Option Nat, (x = none ∨ x = some (w.heap.size + 1)) ∧ boltV x = .pointer (some ⟨w.heap.size + 1, 0, none⟩) := ⟨some (w.heap.size + 1), .inr rfl, rfl⟩
        have HP := Lib.hid hpx
        have HX := Lib.hid hx
        clear hx hpx
        have C1 := Lib.hid (fun W (h : BoIs w W k i m) => doZ W x k i m (h.z HX.out))
        have C2 := Lib.hid (fun W (h : BoIs w W k i m) => traceZ W x (h.z HX.out))
        have C3 := Lib.hid (fun W (h : BoIs w W k i m) => wordsZ W x (h.z HX.out))
        rw [HP.out] at C1 C2 C3
        rw [HWT.out] at C1
        go_wp2_with fail
        refine (C1.out _ HN.out).mono ?_
        rintro en w2 ⟨rfl, b1⟩
        have H1 := Lib.hid (HN.out.below b1)
        clear b1
        go_wp2_with fail
        refine (C2.out _ H1.out).mono ?_
        rintro en w3 ⟨rfl, b2⟩
        have H2 := Lib.hid (H1.out.below b2)
        clear b2
        go_wp2_with fail
        refine (C3.out _ H2.out).mono ?_
        rintro en w4 ⟨rfl, rfl⟩
        go_wp2
        go_roundw
        case rel => exact ⟨2, by go_num, by omega, H2.out⟩
        case measure => simp [intOf]
      · go_wp2_with fail
        refine (awake47 _).mono ?_
        rintro en w2 ⟨rfl, b2⟩
        have H2 := Lib.hid (HN.out.bel.trans (b2.mono HN.out.bel.size))
        clear b2
        go_wp2
        go_ret
        exact ⟨rfl, H2.out⟩
  have HWT : Hid (wantE k = 4) := Lib.hid (by unfold wantE; rw [if_pos (by omega)])
  go_enter Tryz.func7, Tryz.ntmps7
  go_wp2
  go_loopw [21] (fun s wr => ∃ z : Int, s = .int .i64 z ∧ (z = 0 ∨ z = 1 ∨ z = 2) ∧ BoIs w wr k i m) (fun s _ => 2 - (intOf s).toNat)
  case atStart => exact ⟨0, rfl, .inl rfl, H0.out⟩
  case round =>
    clear H0
    obtain ⟨z, rfl, hz, hN⟩ := hrel
    obtain ⟨wo, rfl⟩ : ∃ wo : World, wo = wr := ⟨_, rfl⟩
    have c0 := hN.act.cell 0
    have c1 := hN.act.cell 1
    have c2 := hN.act.cell 2
    have HN := Lib.hid hN
    clear hN
    have ix0 : ∀ W, (Instr.index 76 (.agg #[.pointer none, .pointer (some ⟨w.heap.size + 1, 0, none⟩)]) (.int .i64 0)).run Tryz.prog W = .ok (.pointer none) W := fun _ => by kernel_rfl
    have ix1 : ∀ W, (Instr.index 76 (.agg #[.pointer none, .pointer (some ⟨w.heap.size + 1, 0, none⟩)]) (.int .i64 1)).run Tryz.prog W = .ok (.pointer (some ⟨w.heap.size + 1, 0, none⟩)) W := fun _ => by kernel_rfl
    rcases hz with rfl | rfl | rfl
    · obtain ⟨x, hx, hpx⟩ : ∃ x : Option Nat, (x = none ∨ x = some (w.heap.size + 1)) ∧ boltV x = .pointer none := ⟨none, .inl rfl, rfl⟩
      have HP := Lib.hid hpx
      have HX := Lib.hid hx
      clear hx hpx
      have C1 := Lib.hid (fun W (h : BoIs w W k i m) => doZ W x k i m (h.z HX.out))
      have C2 := Lib.hid (fun W (h : BoIs w W k i m) => traceZ W x (h.z HX.out))
      have C3 := Lib.hid (fun W (h : BoIs w W k i m) => wordsZ W x (h.z HX.out))
      rw [HP.out] at C1 C2 C3
      rw [HWT.out] at C1
      go_wp2_with fail
      refine (C1.out _ HN.out).mono ?_
      rintro en w2 ⟨rfl, b1⟩
      have H1 := Lib.hid (HN.out.below b1)
      clear b1
      go_wp2_with fail
      refine (C2.out _ H1.out).mono ?_
      rintro en w3 ⟨rfl, b2⟩
      have H2 := Lib.hid (H1.out.below b2)
      clear b2
      go_wp2_with fail
      refine (C3.out _ H2.out).mono ?_
      rintro en w4 ⟨rfl, rfl⟩
      go_wp2
      go_roundw
      case rel => exact ⟨1, by go_num, by omega, H2.out⟩
      case measure => simp [intOf]
    · obtain ⟨x, hx, hpx⟩ : ∃ x : Option Nat, (x = none ∨ x = some (w.heap.size + 1)) ∧ boltV x = .pointer (some ⟨w.heap.size + 1, 0, none⟩) := ⟨some (w.heap.size + 1), .inr rfl, rfl⟩
      have HP := Lib.hid hpx
      have HX := Lib.hid hx
      clear hx hpx
      have C1 := Lib.hid (fun W (h : BoIs w W k i m) => doZ W x k i m (h.z HX.out))
      have C2 := Lib.hid (fun W (h : BoIs w W k i m) => traceZ W x (h.z HX.out))
      have C3 := Lib.hid (fun W (h : BoIs w W k i m) => wordsZ W x (h.z HX.out))
      rw [HP.out] at C1 C2 C3
      rw [HWT.out] at C1
      go_wp2_with fail
      refine (C1.out _ HN.out).mono ?_
      rintro en w2 ⟨rfl, b1⟩
      have H1 := Lib.hid (HN.out.below b1)
      clear b1
      go_wp2_with fail
      refine (C2.out _ H1.out).mono ?_
      rintro en w3 ⟨rfl, b2⟩
      have H2 := Lib.hid (H1.out.below b2)
      clear b2
      go_wp2_with fail
      refine (C3.out _ H2.out).mono ?_
      rintro en w4 ⟨rfl, rfl⟩
      go_wp2
      go_roundw
      case rel => exact ⟨2, by go_num, by omega, H2.out⟩
      case measure => simp [intOf]
    · go_wp2_with fail
      refine (awake47 _).mono ?_
      rintro en w2 ⟨rfl, b2⟩
      have H2 := Lib.hid (HN.out.bel.trans (b2.mono HN.out.bel.size))
      clear b2
      go_wp2
      go_ret
      exact ⟨rfl, H2.out⟩
end Go.Proofs.YtgbfbeohmogadaaGreat
