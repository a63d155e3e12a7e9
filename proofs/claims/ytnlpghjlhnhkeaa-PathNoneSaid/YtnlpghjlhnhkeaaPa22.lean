/- The walk of PathNone. -/
import Derived.Test.YtnlpghjlhnhkeaaPa18
namespace Go.Proofs.Ytnlpghjlhnhkeaa
open Go.RowKit

theorem topoZ0 (w : World) : Calls Try.prog 29 #[.pointer none] w fun e w' => ∃ A c vT, e = .returned (.agg #[.slice A 0 c, vT]) ∧ Below w.heap.size w w' := by
  go_enter Try.func29, Try.ntmps29
  go_wp2
  refine bodyPost_ret (v := .agg #[.slice none 0 0, .slice none 0 0]) (by simp [results, Try.results29, go_sem]) rfl ⟨_, _, _, rfl, ?_⟩
  exact (Below.refl _ _).alloc (Nat.le_refl _) _
theorem topoZ1 (w : World) (b : Nat) (h : TabZ w b) : Calls Try.prog 29 #[.pointer (some ⟨b, 0, none⟩)] w fun e w' => ∃ A c vT, e = .returned (.agg #[.slice A 0 c, vT]) ∧ Below w.heap.size w w' := by
  have hb := h.lt
  obtain ⟨d, vM, _, hB⟩ := h
  refine (topo_gen w b [] [] hb (by simp) (by simp) none none 0 0 (hB.cell 0) (hB.cell 1) RdL.nil RdL.nil).mono ?_
  rintro e w' ⟨vP, vT, rfl, h1, h2, h3⟩
  obtain ⟨A, c, rfl, _, _⟩ := rdl_form h1
  exact ⟨A, c, vT, rfl, h3⟩
theorem topoZ (w : World) (x : Option Nat) (h : IsZ w x) : Calls Try.prog 29 #[ptrZ x] w fun e w' => ∃ A c vT, e = .returned (.agg #[.slice A 0 c, vT]) ∧ Below w.heap.size w w' := by
  cases x with
  | none => exact topoZ0 w
  | some b => exact topoZ1 w b (h b rfl)
/-- in the middle of PathNone -/
structure NoneIs (w wr : World) (g : Nat) : Prop where
  tab : TabZ wr g
  lo : w.heap.size ≤ g
  bel : Below w.heap.size w wr
theorem NoneIs.turn {w wr w' : World} {g : Nat} {x : Option Nat} (h : NoneIs w wr g) (hx : x = none ∨ x = some g) (hz : IsZ w' x) (k : Turns x.toList wr w') : NoneIs w w' g := by
  rcases hx with rfl | rfl
  · have k' : Below wr.heap.size wr w' := k.below (by simp) (Nat.le_refl _)
    exact ⟨h.tab.below k', h.lo, h.bel.trans (k'.mono h.bel.size)⟩
  · exact ⟨hz g rfl, h.lo, h.bel.trans (k.below (by simpa using h.lo) h.bel.size)⟩
theorem NoneIs.below {w wr w' : World} {g : Nat} (h : NoneIs w wr g) (k : Below wr.heap.size wr w') : NoneIs w w' g := ⟨h.tab.below k, h.lo, h.bel.trans (k.mono h.bel.size)⟩
theorem NoneIs.z {w wr : World} {g : Nat} {x : Option Nat} (h : NoneIs w wr g) (hx : x = none ∨ x = some g) : IsZ wr x := by
  rcases hx with rfl | rfl
  · exact IsZ.none _
  · exact IsZ.some h.tab
theorem nonez {f : FuncId} {args : Array Value} {w wr : World} {g : Nat} {x : Option Nat} {v : Value} (h : NoneIs w wr g) (hx : x = none ∨ x = some g) (hc : Calls Try.prog f args wr (TellsZ wr x v)) :
    Calls Try.prog f args wr fun e w' => e = .returned v ∧ NoneIs w w' g := hc.mono fun _ _ ⟨h1, h2, h3⟩ => ⟨h1, h.turn hx h2 h3⟩
set_option maxRecDepth 100000 in
set_option maxHeartbeats 8000000 in
theorem none07 (w : World) (a b : Int) : Calls Try.prog 6 #[.int .i64 a, .int .i64 b] w fun e w' => e = .returned (.bool true) ∧ Below w.heap.size w w' := by
  have hZ : TabZ (w.alloc (.cells (tabC (.slice none 0 0) (.slice none 0 0) 0 0 (.slice none 0 0) (.slice none 0 0) (.slice none 0 0) (.slice none 0 0)) 61)) w.heap.size := ⟨0, _, .inl ⟨rfl, rfl⟩, Blk.new _ _ _⟩
  have H0 : Hid (NoneIs w (w.alloc (.cells (tabC (.slice none 0 0) (.slice none 0 0) 0 0 (.slice none 0 0) (.slice none 0 0) (.slice none 0 0) (.slice none 0 0)) 61)) w.heap.size) := Lib.hid ⟨hZ, Nat.le_refl _, (Below.refl _ _).alloc (Nat.le_refl _) _⟩
  simp only [tabC] at H0
  clear hZ
  go_enter Try.func6, Try.ntmps6
  go_wp2
  go_loopw [14] (fun s wr => ∃ z : Int, s = .int .i64 z ∧ (z = 0 ∨ z = 1 ∨ z = 2) ∧ NoneIs w wr w.heap.size) (fun s _ => 2 - (intOf s).toNat)
  case atStart => exact ⟨0, rfl, .inl rfl, H0.out⟩
  case round =>
    clear H0
    obtain ⟨z, rfl, hz, hN⟩ := hrel
    obtain ⟨wo, rfl⟩ : ∃ wo : World, wo = wr := ⟨_, rfl⟩
    have HN := Lib.hid hN
    clear hN
    have ix0 : ∀ W, (Instr.index 62 (.agg #[.pointer none, .pointer (some ⟨w.heap.size, 0, none⟩)]) (.int .i64 0)).run Try.prog W = .ok (.pointer none) W := fun _ => by kernel_rfl
    have ix1 : ∀ W, (Instr.index 62 (.agg #[.pointer none, .pointer (some ⟨w.heap.size, 0, none⟩)]) (.int .i64 1)).run Try.prog W = .ok (.pointer (some ⟨w.heap.size, 0, none⟩)) W := fun _ => by kernel_rfl
    have fx : ∀ (x y : Value) W, (Instr.field 24 (.agg #[x, y]) 0).run Try.prog W = .ok x W := fun _ _ _ => by kernel_rfl
    rcases hz with rfl | rfl | rfl
    · obtain ⟨x, hx, hpx⟩ : ∃ x : Option Nat, (x = none ∨ x = some w.heap.size) ∧ ptrZ x = .pointer none := ⟨none, .inl rfl, rfl⟩
      have HX := Lib.hid hx
      have HP := Lib.hid hpx
      clear hx hpx
      have C1 := Lib.hid (fun W (h : NoneIs w W w.heap.size) => nonez h HX.out (nodesZ W x (h.z HX.out)))
      have C2 := Lib.hid (fun W (h : NoneIs w W w.heap.size) => threadsZ W x (h.z HX.out))
      have C3 := Lib.hid (fun W (h : NoneIs w W w.heap.size) => nodeZ W x a (h.z HX.out))
      have C4 := Lib.hid (fun W (h : NoneIs w W w.heap.size) => slotZ W x a (h.z HX.out))
      have C5 := Lib.hid (fun W (h : NoneIs w W w.heap.size) => nonez h HX.out (matesZ W x a (h.z HX.out)))
      have C6 := Lib.hid (fun W (h : NoneIs w W w.heap.size) => upZ W x a (h.z HX.out))
      have C7 := Lib.hid (fun W (h : NoneIs w W w.heap.size) => farZ W x a b (h.z HX.out))
      have C8 := Lib.hid (fun W (h : NoneIs w W w.heap.size) => meetZ W x a b (h.z HX.out))
      have C9 := Lib.hid (fun W (h : NoneIs w W w.heap.size) => topoZ W x (h.z HX.out))
      rw [HP.out] at C1 C2 C3 C4 C5 C6 C7 C8 C9
      go_wp2_with fail
      refine (C1.out _ HN.out).mono ?_
      rintro en w1 ⟨rfl, h1⟩
      have H1 := Lib.hid h1
      clear h1
      go_wp2_with fail
      refine (C2.out _ H1.out).mono ?_
      rintro en w2 ⟨rfl, rfl⟩
      go_wp2_with fail
      refine (C3.out _ H1.out).mono ?_
      rintro en w2 ⟨rfl, rfl⟩
      go_wp2_with fail
      refine (C4.out _ H1.out).mono ?_
      rintro en w2 ⟨rfl, rfl⟩
      go_wp2_with fail
      refine (C5.out _ H1.out).mono ?_
      rintro en w2 ⟨rfl, h2⟩
      have H2 := Lib.hid h2
      clear h2
      go_wp2_with fail
      refine (C6.out _ H2.out).mono ?_
      rintro en w3 ⟨rfl, rfl⟩
      go_wp2_with fail
      refine (C7.out _ H2.out).mono ?_
      rintro en w3 ⟨rfl, rfl⟩
      go_wp2_with fail
      refine (C8.out _ H2.out).mono ?_
      rintro en w3 ⟨rfl, rfl⟩
      go_wp2_with fail
      refine (C9.out _ H2.out).mono ?_
      rintro en w3 ⟨A, c, vT, rfl, b3⟩
      have H3 := Lib.hid (H2.out.below b3)
      clear b3
      go_wp2
      go_roundw
      case rel => exact ⟨1, by go_num, by omega, H3.out⟩
      case measure => simp [intOf]
    · obtain ⟨x, hx, hpx⟩ : ∃ x : Option Nat, (x = none ∨ x = some w.heap.size) ∧ ptrZ x = .pointer (some ⟨w.heap.size, 0, none⟩) := ⟨some w.heap.size, .inr rfl, rfl⟩
      have HX := Lib.hid hx
      have HP := Lib.hid hpx
      clear hx hpx
      have C1 := Lib.hid (fun W (h : NoneIs w W w.heap.size) => nonez h HX.out (nodesZ W x (h.z HX.out)))
      have C2 := Lib.hid (fun W (h : NoneIs w W w.heap.size) => threadsZ W x (h.z HX.out))
      have C3 := Lib.hid (fun W (h : NoneIs w W w.heap.size) => nodeZ W x a (h.z HX.out))
      have C4 := Lib.hid (fun W (h : NoneIs w W w.heap.size) => slotZ W x a (h.z HX.out))
      have C5 := Lib.hid (fun W (h : NoneIs w W w.heap.size) => nonez h HX.out (matesZ W x a (h.z HX.out)))
      have C6 := Lib.hid (fun W (h : NoneIs w W w.heap.size) => upZ W x a (h.z HX.out))
      have C7 := Lib.hid (fun W (h : NoneIs w W w.heap.size) => farZ W x a b (h.z HX.out))
      have C8 := Lib.hid (fun W (h : NoneIs w W w.heap.size) => meetZ W x a b (h.z HX.out))
      have C9 := Lib.hid (fun W (h : NoneIs w W w.heap.size) => topoZ W x (h.z HX.out))
      rw [HP.out] at C1 C2 C3 C4 C5 C6 C7 C8 C9
      go_wp2_with fail
      refine (C1.out _ HN.out).mono ?_
      rintro en w1 ⟨rfl, h1⟩
      have H1 := Lib.hid h1
      clear h1
      go_wp2_with fail
      refine (C2.out _ H1.out).mono ?_
      rintro en w2 ⟨rfl, rfl⟩
      go_wp2_with fail
      refine (C3.out _ H1.out).mono ?_
      rintro en w2 ⟨rfl, rfl⟩
      go_wp2_with fail
      refine (C4.out _ H1.out).mono ?_
      rintro en w2 ⟨rfl, rfl⟩
      go_wp2_with fail
      refine (C5.out _ H1.out).mono ?_
      rintro en w2 ⟨rfl, h2⟩
      have H2 := Lib.hid h2
      clear h2
      go_wp2_with fail
      refine (C6.out _ H2.out).mono ?_
      rintro en w3 ⟨rfl, rfl⟩
      go_wp2_with fail
      refine (C7.out _ H2.out).mono ?_
      rintro en w3 ⟨rfl, rfl⟩
      go_wp2_with fail
      refine (C8.out _ H2.out).mono ?_
      rintro en w3 ⟨rfl, rfl⟩
      go_wp2_with fail
      refine (C9.out _ H2.out).mono ?_
      rintro en w3 ⟨A, c, vT, rfl, b3⟩
      have H3 := Lib.hid (H2.out.below b3)
      clear b3
      go_wp2
      go_roundw
      case rel => exact ⟨2, by go_num, by omega, H3.out⟩
      case measure => simp [intOf]
    · go_wp2_with fail
      refine (awake07 _).mono ?_
      rintro en w2 ⟨rfl, b2⟩
      have H2 := Lib.hid (HN.out.bel.trans (b2.mono HN.out.bel.size))
      clear b2
      go_wp2
      go_ret
      exact ⟨rfl, H2.out⟩
end Go.Proofs.Ytnlpghjlhnhkeaa
