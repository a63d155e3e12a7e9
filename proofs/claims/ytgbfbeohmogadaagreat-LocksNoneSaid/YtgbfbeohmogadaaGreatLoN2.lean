/- The walk of LocksNone. -/
import Derived.Test.YtgbfbeohmogadaaGreatLoN1
import Derived.Test.YtgbfbeohmogadaaGreatAw4
namespace Go.Proofs.YtgbfbeohmogadaaGreat
open Go.RowKit

theorem eqSpot (a b c d a' b' c' d' : Int) (w : World) : (Op.equalIn 10000 33 (.agg #[.int .i64 a, .int .i64 b, .int .i64 c, .int .i64 d]) (.agg #[.int .i64 a', .int .i64 b', .int .i64 c', .int .i64 d'])).run Tryz.prog w = .ok (a == a' && b == b' && c == c' && d == d') w := by
  have u3 := Tryz.underlying3
  have a3 := Tryz.isAgg3
  have z3 := Tryz.sizeOf3
  have hS : Tryz.prog.underlying 33 = some (.struct (Tryz.prog.fieldsOf 33)) := by kernel_rfl
  have hp : Tryz.prog.stoodInHeld 33 = false := by kernel_rfl
  rw [show (10000 : Nat) = 9999 + 1 from rfl, run_equalIn_agg w 9999 33 _ _ hS hp]
  simp only [Program.fieldsOf, Tryz.underlying33]
  go_simp
  by_cases h1 : a = a' <;> by_cases h2 : b = b' <;> by_cases h3 : c = c' <;> by_cases h4 : d = d' <;> simp [h1, h2, h3, h4]
@[go_sem] theorem guardSpot : Tryz.prog.eqGuardType Tryz.prog.depth 33 = false := by kernel_rfl
@[go_sem high] theorem neqSpot (a b c d a' b' c' d' : Int) (w : World) : (binOp .neq 33 (.agg #[.int .i64 a, .int .i64 b, .int .i64 c, .int .i64 d]) (.agg #[.int .i64 a', .int .i64 b', .int .i64 c', .int .i64 d'])).run Tryz.prog w = .ok (.bool (!(a == a' && b == b' && c == c' && d == d'))) w := by
  rw [run_neq_struct, eqSpot]; rfl
structure RwIs (w wr : World) (k i : Int) : Prop where
  bel : Below w.heap.size w wr
  act : Blk wr w.heap.size 23 #[.int .i64 k, .int .i64 i]
  zero : Blk wr (w.heap.size + 1) 45 #[.int .i64 0, .int .i64 0, .nilIface]
theorem RwIs.below {w wr w' : World} {k i : Int} (h : RwIs w wr k i) (b : Below wr.heap.size wr w') : RwIs w w' k i := ⟨h.bel.trans (b.mono h.bel.size), h.act.below b h.act.lt, h.zero.below b h.zero.lt⟩
theorem RwIs.z {w wr : World} {k i : Int} (h : RwIs w wr k i) {x : Option Nat} (hx : x = none ∨ x = some (w.heap.size + 1)) : LkZ wr x := by
  rcases hx with rfl | rfl
  · exact LkZ.none _
  · intro b hb; injection hb with hb; subst hb; exact h.zero
set_option maxRecDepth 100000 in
set_option maxHeartbeats 8000000 in
theorem none40 (w : World) (k i : Int) : Calls Tryz.prog 5 #[.agg #[.int .i64 k, .int .i64 i]] w fun e w' => e = .returned (.bool true) ∧ Below w.heap.size w w' := by
  have hB : Below w.heap.size w ((w.alloc (.cells #[.int .i64 k, .int .i64 i] 23)).alloc (.cells #[.int .i64 0, .int .i64 0, .nilIface] 45)) := ((Below.refl _ _).alloc (Nat.le_refl _) _).alloc (by simp) _
  have h0 : RwIs w ((w.alloc (.cells #[.int .i64 k, .int .i64 i] 23)).alloc (.cells #[.int .i64 0, .int .i64 0, .nilIface] 45)) k i := by
    have a1 := Blk.new w 23 #[.int .i64 k, .int .i64 i]
    have a2 := Blk.new (w.alloc (.cells #[.int .i64 k, .int .i64 i] 23)) 45 #[.int .i64 0, .int .i64 0, .nilIface]
    exact ⟨hB, a1.alloc _, by simpa using a2⟩
  have H0 := Lib.hid h0
  clear hB h0
  go_enter Tryz.func5, Tryz.ntmps5
  go_wp2
  go_loopw [10] (fun s wr => ∃ z : Int, s = .int .i64 z ∧ (z = 0 ∨ z = 1 ∨ z = 2) ∧ RwIs w wr k i) (fun s _ => 2 - (intOf s).toNat)
  case atStart => exact ⟨0, rfl, .inl rfl, H0.out⟩
  case round =>
    clear H0
    obtain ⟨z, rfl, hz, hN⟩ := hrel
    obtain ⟨wo, rfl⟩ : ∃ wo : World, wo = wr := ⟨_, rfl⟩
    have c0 := hN.act.cell 0
    have c1 := hN.act.cell 1
    have HN := Lib.hid hN
    clear hN
    have ix0 : ∀ W, (Instr.index 46 (.agg #[.pointer none, .pointer (some ⟨w.heap.size + 1, 0, none⟩)]) (.int .i64 0)).run Tryz.prog W = .ok (.pointer none) W := fun _ => by kernel_rfl
    have ix1 : ∀ W, (Instr.index 46 (.agg #[.pointer none, .pointer (some ⟨w.heap.size + 1, 0, none⟩)]) (.int .i64 1)).run Tryz.prog W = .ok (.pointer (some ⟨w.heap.size + 1, 0, none⟩)) W := fun _ => by kernel_rfl
    rcases hz with rfl | rfl | rfl
    · obtain ⟨x, hx, hpx⟩ : ∃ x : Option Nat, (x = none ∨ x = some (w.heap.size + 1)) ∧ lockV x = .pointer none := ⟨none, .inl rfl, rfl⟩
      have HP := Lib.hid hpx
      have HX := Lib.hid hx
      clear hx hpx
      have C1 := Lib.hid (fun W (h : RwIs w W k i) => do40 W x k i (h.z HX.out))
      have C2 := Lib.hid (fun W (h : RwIs w W k i) => threadsK W x (h.z HX.out))
      have C3 := Lib.hid (fun W (h : RwIs w W k i) => spotL W x i (h.z HX.out))
      have C4 := Lib.hid (fun W (h : RwIs w W k i) => stateL W x i (h.z HX.out))
      have C5 := Lib.hid (fun W (h : RwIs w W k i) => readsL W x i (h.z HX.out))
      have C6 := Lib.hid (fun W (h : RwIs w W k i) => countL W x i (h.z HX.out))
      rw [HP.out] at C1 C2 C3 C4 C5 C6
      go_wp2_with fail
      refine (C1.out _ HN.out).mono ?_
      rintro en w2 ⟨rfl, b1⟩
      have H1 := Lib.hid (HN.out.below b1)
      clear b1
      have c0 := H1.out.act.cell 0
      have c1 := H1.out.act.cell 1
      go_wp2_with fail
      refine (C2.out _ H1.out).mono ?_
      rintro en w3 ⟨rfl, rfl⟩
      go_wp2_with fail
      refine (C3.out _ H1.out).mono ?_
      rintro en w4 ⟨rfl, b3⟩
      have H3 := Lib.hid (H1.out.below b3)
      clear b3
      have c0 := H3.out.act.cell 0
      have c1 := H3.out.act.cell 1
      go_wp2_with fail
      refine (C4.out _ H3.out).mono ?_
      rintro en w5 ⟨rfl, b4⟩
      have H4 := Lib.hid (H3.out.below b4)
      clear b4
      have c0 := H4.out.act.cell 0
      have c1 := H4.out.act.cell 1
      go_wp2_with fail
      refine (C5.out _ H4.out).mono ?_
      rintro en w6 ⟨rfl, b5⟩
      have H5 := Lib.hid (H4.out.below b5)
      clear b5
      have c0 := H5.out.act.cell 0
      have c1 := H5.out.act.cell 1
      go_wp2_with fail
      refine (C6.out _ H5.out).mono ?_
      rintro en w7 ⟨rfl, rfl⟩
      go_wp2
      go_roundw
      case rel => exact ⟨1, by go_num, by omega, H5.out⟩
      case measure => simp [intOf]
    · obtain ⟨x, hx, hpx⟩ : ∃ x : Option Nat, (x = none ∨ x = some (w.heap.size + 1)) ∧ lockV x = .pointer (some ⟨w.heap.size + 1, 0, none⟩) := ⟨some (w.heap.size + 1), .inr rfl, rfl⟩
      have HP := Lib.hid hpx
      have HX := Lib.hid hx
      clear hx hpx
      have C1 := Lib.hid (fun W (h : RwIs w W k i) => do40 W x k i (h.z HX.out))
      have C2 := Lib.hid (fun W (h : RwIs w W k i) => threadsK W x (h.z HX.out))
      have C3 := Lib.hid (fun W (h : RwIs w W k i) => spotL W x i (h.z HX.out))
      have C4 := Lib.hid (fun W (h : RwIs w W k i) => stateL W x i (h.z HX.out))
      have C5 := Lib.hid (fun W (h : RwIs w W k i) => readsL W x i (h.z HX.out))
      have C6 := Lib.hid (fun W (h : RwIs w W k i) => countL W x i (h.z HX.out))
      rw [HP.out] at C1 C2 C3 C4 C5 C6
      go_wp2_with fail
      refine (C1.out _ HN.out).mono ?_
      rintro en w2 ⟨rfl, b1⟩
      have H1 := Lib.hid (HN.out.below b1)
      clear b1
      have c0 := H1.out.act.cell 0
      have c1 := H1.out.act.cell 1
      go_wp2_with fail
      refine (C2.out _ H1.out).mono ?_
      rintro en w3 ⟨rfl, rfl⟩
      go_wp2_with fail
      refine (C3.out _ H1.out).mono ?_
      rintro en w4 ⟨rfl, b3⟩
      have H3 := Lib.hid (H1.out.below b3)
      clear b3
      have c0 := H3.out.act.cell 0
      have c1 := H3.out.act.cell 1
      go_wp2_with fail
      refine (C4.out _ H3.out).mono ?_
      rintro en w5 ⟨rfl, b4⟩
      have H4 := Lib.hid (H3.out.below b4)
      clear b4
      have c0 := H4.out.act.cell 0
      have c1 := H4.out.act.cell 1
      go_wp2_with fail
      refine (C5.out _ H4.out).mono ?_
      rintro en w6 ⟨rfl, b5⟩
      have H5 := Lib.hid (H4.out.below b5)
      clear b5
      have c0 := H5.out.act.cell 0
      have c1 := H5.out.act.cell 1
      go_wp2_with fail
      refine (C6.out _ H5.out).mono ?_
      rintro en w7 ⟨rfl, rfl⟩
      go_wp2
      go_roundw
      case rel => exact ⟨2, by go_num, by omega, H5.out⟩
      case measure => simp [intOf]
    · go_wp2_with fail
      refine (awake40 _).mono ?_
      rintro en w2 ⟨rfl, b2⟩
      have H2 := Lib.hid (HN.out.bel.trans (b2.mono HN.out.bel.size))
      clear b2
      go_wp2
      go_ret
      exact ⟨rfl, H2.out⟩
end Go.Proofs.YtgbfbeohmogadaaGreat
