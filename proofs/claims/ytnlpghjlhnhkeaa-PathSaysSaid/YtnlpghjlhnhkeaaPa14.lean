/- A table that nobody made: the methods of nil, and of the zero table. -/
import Derived.Test.YtnlpghjlhnhkeaaPa13
namespace Go.Proofs.Ytnlpghjlhnhkeaa
open Go.RowKit

/-- the zero table, before and behind its first search -/
def TabZ (w : World) (b : Nat) : Prop := ∃ d vM, ((d = 0 ∧ vM = .slice none 0 0) ∨ (d = 1 ∧ ∃ A c, vM = .slice A 0 c)) ∧ Blk w b 61 (tabC (.slice none 0 0) (.slice none 0 0) d 0 (.slice none 0 0) (.slice none 0 0) (.slice none 0 0) vM)
theorem TabZ.lt {w : World} {b : Nat} (h : TabZ w b) : b < w.heap.size := by obtain ⟨d, vM, _, h⟩ := h; exact h.lt
theorem TabZ.below {w w' : World} {b : Nat} (h : TabZ w b) (k : Below w.heap.size w w') : TabZ w' b := by obtain ⟨d, vM, h1, h⟩ := h; exact ⟨d, vM, h1, h.below k h.lt⟩
theorem lvs_nil : lvsT [] [] = [] := by decide
set_option maxRecDepth 100000 in
set_option maxHeartbeats 1000000 in
theorem find_zero (w : World) (b : Nat) (hB : Blk w b 61 (tabC (.slice none 0 0) (.slice none 0 0) 0 1 (.slice none 0 0) (.slice none 0 0) (.slice none 0 0) (.slice none 0 0))) :
    Calls Try.prog 67 #[.pointer (some ⟨b, 0, none⟩)] w fun e w' => e = .returned (.tuple #[]) ∧ ∃ A c, Blk w' b 61 (tabC (.slice none 0 0) (.slice none 0 0) 0 1 (.slice none 0 0) (.slice none 0 0) (.slice none 0 0) (.slice A 0 c)) ∧ Turns [b] w w' := by
  have HL := Lib.hid (tleaves_any w (.slice none 0 0) (.slice none 0 0) [] [] RdL.nil RdL.nil)
  obtain ⟨i0, hi, hz0, hz1, hz2⟩ := info_parts Try.infoIn
  have HH := Lib.hid hB
  have c0 := hB.cell 0
  have c1 := hB.cell 1
  simp only [tabC] at c0 c1
  clear hB
  go_enter Try.func67, Try.ntmps67
  go_wp2_with fail
  refine HL.out.mono ?_
  rintro en w1 ⟨v, rfl, ho, hb⟩
  rw [lvs_nil] at ho
  obtain ⟨A, c, rfl⟩ := own_form ho
  simp only [List.length_nil] at *
  have H1 := Lib.hid hb
  have HB1 := Lib.hid (HH.out.below hb HH.out.lt)
  have d8 := HB1.out.cell 8
  have f8 := HB1.out.free 8
  have d1 := HB1.out.cell 1
  simp only [tabC] at d8 d1
  clear hb ho c0 c1
  have HI := Lib.hid (And.intro hi (And.intro hz0 (And.intro hz1 hz2)))
  clear hi hz0 hz1 hz2
  go_wp2_with (refine wpList_make_full _ rfl (.tmp 15) (.tmp 15) 22 rfl w1.heap.size 3 i0 (.int .i64 0) 1 Try.underlying22 HI.out.1 HI.out.2.1 HI.out.2.2.1 .i64 .i64 0 0 0 rfl rfl rfl rfl ?b2 ?b3 (Nat.le_refl _) ?_)
  case b2 => omega
  case b3 => unfold maxLen; omega
  intro w2 hown hg
  have HB2 := Lib.hid (HB1.out.grown hg (by simp))
  have HG := Lib.hid hg
  have g8 := HB2.out.cell 8
  have z8 := HB2.out.free 8
  simp only [tabC] at g8
  clear hown hg d8 f8 d1
  have HB3 : Hid (Blk (w2.setCell ⟨b, 8, none⟩ (.slice (some ⟨w1.heap.size, 0, none⟩) 0 0)) b 61 (tabC (.slice none 0 0) (.slice none 0 0) 0 1 (.slice none 0 0) (.slice none 0 0) (.slice none 0 0) (.slice (some ⟨w1.heap.size, 0, none⟩) 0 0))) := Lib.hid (HB2.out.set_ 8 _)
  have HT3 : Hid (Turns [b] w (w2.setCell ⟨b, 8, none⟩ (.slice (some ⟨w1.heap.size, 0, none⟩) 0 0))) := Lib.hid (((Turns.of_below H1.out).trans (turns_row (Turns.refl [b] w1) HG.out (fun g hg => by cases hg))).setCell (.inl (by simp)) _)
  have g1 := HB3.out.cell 1
  simp only [tabC] at g1
  go_wp2
  go_loop [25] (fun s => s = .int .i64 0) (fun _ => 0)
  case atStart => rfl
  case round =>
    subst hrel
    go_wp2
    go_end0
    exact ⟨rfl, ⟨_, _, HB3.out⟩, HT3.out⟩
/-- behind the first search of the zero table -/
def TabZ1 (w : World) (b : Nat) : Prop := ∃ A c, Blk w b 61 (tabC (.slice none 0 0) (.slice none 0 0) 1 0 (.slice none 0 0) (.slice none 0 0) (.slice none 0 0) (.slice A 0 c))
theorem TabZ1.z {w : World} {b : Nat} (h : TabZ1 w b) : TabZ w b := by obtain ⟨A, c, h⟩ := h; exact ⟨1, _, .inr ⟨rfl, A, c, rfl⟩, h⟩
set_option maxRecDepth 100000 in
theorem found_zero (w : World) (b : Nat) (h : TabZ w b) :
    Calls Try.prog 41 #[.pointer (some ⟨b, 0, none⟩)] w fun e w' => e = .returned (.pointer (some ⟨b, 0, none⟩)) ∧ TabZ1 w' b ∧ Turns [b] w w' := by
  obtain ⟨d, vM, h1, hB⟩ := h
  rcases h1 with ⟨rfl, rfl⟩ | ⟨rfl, A, c, rfl⟩
  · have k0 : Turns [b] w (w.setCell ⟨b, 3, none⟩ (.int .i32 1)) := Turns.setCell (Turns.refl [b] w) (.inl (by simp)) _
    have hf := find_zero (w.setCell ⟨b, 3, none⟩ (.int .i32 1)) b (hB.set_ 3 (.int .i32 1))
    have HD := Lib.hid (do_first b 2 (.pointer (some ⟨b, 0, none⟩)) w (fun w2 => TabZ1 (onceEnd b 2 w2) b ∧ Turns [b] w (onceEnd b 2 w2)) (hB.cell 2) (hB.cell 3) (hB.free 2) (hB.free 3)
      (hf.mono fun e w2 ⟨he, A, c, hB2, ht⟩ => ⟨he, ⟨hB2.cell 2, hB2.cell 3, hB2.free 2, hB2.free 3⟩, ⟨A, c, ((hB2.drew).set_ 2 (.int .u32 1)).set_ 3 (.int .i32 0)⟩, (((k0.trans ht).drew).setCell (.inl (by simp)) _).setCell (.inl (by simp)) _⟩))
    clear hf hB k0
    go_enter Try.func41, Try.ntmps41
    go_wp2_with fail
    refine HD.out.mono ?_
    rintro en w' ⟨rfl, w2, hR, hw⟩
    have HR := Lib.hid (show TabZ1 w' b ∧ Turns [b] w w' by rw [hw]; exact hR)
    clear hR hw
    go_wp2
    go_ret
    exact ⟨rfl, HR.out⟩
  · have c2 := hB.cell 2
    simp only [tabC] at c2
    have HD := Lib.hid (fun fv => do_done b 2 fv w c2)
    have HZ : Hid (TabZ1 w b) := Lib.hid ⟨A, c, hB⟩
    clear hB c2
    go_enter Try.func41, Try.ntmps41
    go_wp2_with fail
    refine (HD.out _).mono ?_
    rintro en w' ⟨rfl, rfl⟩
    go_wp2
    go_ret
    exact ⟨rfl, HZ.out, Turns.refl _ _⟩
/-- no table, or the zero one -/
def ptrZ (x : Option Nat) : Value := .pointer (x.map fun b => ⟨b, 0, none⟩)
def IsZ (w : World) (x : Option Nat) : Prop := ∀ b, x = some b → TabZ w b
def TellsZ (w : World) (x : Option Nat) (v : Value) (e : Ending) (w' : World) : Prop := e = .returned v ∧ IsZ w' x ∧ Turns x.toList w w'
theorem IsZ.none (w : World) : IsZ w none := fun _ h => by cases h
theorem IsZ.some {w : World} {b : Nat} (h : TabZ w b) : IsZ w (some b) := fun b' e => by injection e with e; exact e ▸ h
theorem threadsZ (w : World) (x : Option Nat) (h : IsZ w x) : Calls Try.prog 11 #[ptrZ x] w fun e w' => e = .returned (.int .i64 0) ∧ w = w' := by
  cases x with
  | none =>
    unfold ptrZ
    simp only [Option.map_none]
    clear h
    go_enter Try.func11, Try.ntmps11
    go_wp2
    go_ret
    exact ⟨rfl, rfl⟩
  | some b =>
    obtain ⟨d, vM, _, hB⟩ := h b rfl
    have c1 := hB.cell 1
    simp only [tabC] at c1
    clear h hB
    unfold ptrZ
    simp only [Option.map_some]
    go_enter Try.func11, Try.ntmps11
    go_wp2
    go_ret
    exact ⟨rfl, rfl⟩
theorem hasZ (w : World) (x : Option Nat) (i : Int) (h : IsZ w x) : Calls Try.prog 40 #[ptrZ x, .int .i64 i] w fun e w' => e = .returned (.bool false) ∧ w = w' := by
  have HT := Lib.hid (threadsZ w x h)
  clear h
  go_enter Try.func40, Try.ntmps40
  by_cases h0 : 0 ≤ i
  · have h1 : decide (i < 0) = false := decide_eq_false (by omega)
    go_wp2_with fail
    refine HT.out.mono ?_
    rintro en w' ⟨rfl, rfl⟩
    go_wp2
    go_ret
    exact ⟨ret_bool (by simp), rfl⟩
  · go_wp2
    go_ret
    exact ⟨rfl, rfl⟩
theorem nodesZ (w : World) (x : Option Nat) (h : IsZ w x) : Calls Try.prog 14 #[ptrZ x] w (TellsZ w x (.int .i64 0)) := by
  cases x with
  | none =>
    unfold ptrZ
    simp only [Option.map_none]
    clear h
    go_enter Try.func14, Try.ntmps14
    go_wp2
    go_ret
    exact ⟨rfl, IsZ.none _, Turns.refl _ _⟩
  | some b =>
    have HF := Lib.hid (found_zero w b (h b rfl))
    clear h
    unfold ptrZ
    simp only [Option.map_some]
    go_enter Try.func14, Try.ntmps14
    go_wp2_with fail
    refine HF.out.mono ?_
    rintro en w1 ⟨rfl, hz, ht⟩
    obtain ⟨A, c, hB⟩ := id hz
    have H1 := Lib.hid (And.intro (IsZ.some hz.z) ht)
    have c8 := hB.cell 8
    simp only [tabC] at c8
    clear hz ht hB
    go_wp2
    go_ret
    exact ⟨rfl, H1.out⟩
theorem nodeZ (w : World) (x : Option Nat) (i : Int) (h : IsZ w x) : Calls Try.prog 17 #[ptrZ x, .int .i64 i] w fun e w' => e = .returned (.int .i64 (-1)) ∧ w = w' := by
  have HH := Lib.hid (hasZ w x i h)
  clear h
  go_enter Try.func17, Try.ntmps17
  go_wp2_with fail
  refine HH.out.mono ?_
  rintro en w' ⟨rfl, rfl⟩
  go_wp2
  go_ret
  exact ⟨rfl, rfl⟩
theorem slotZ (w : World) (x : Option Nat) (i : Int) (h : IsZ w x) : Calls Try.prog 16 #[ptrZ x, .int .i64 i] w fun e w' => e = .returned (.int .i64 (-1)) ∧ w = w' := by
  have HH := Lib.hid (hasZ w x i h)
  clear h
  go_enter Try.func16, Try.ntmps16
  go_wp2_with fail
  refine HH.out.mono ?_
  rintro en w' ⟨rfl, rfl⟩
  go_wp2
  go_ret
  exact ⟨rfl, rfl⟩
theorem upZ (w : World) (x : Option Nat) (i : Int) (h : IsZ w x) : Calls Try.prog 23 #[ptrZ x, .int .i64 i] w fun e w' => e = .returned (.slice none 0 0) ∧ w = w' := by
  have HH := Lib.hid (hasZ w x i h)
  clear h
  go_enter Try.func23, Try.ntmps23
  go_wp2_with fail
  refine HH.out.mono ?_
  rintro en w' ⟨rfl, rfl⟩
  go_wp2
  go_ret
  exact ⟨rfl, rfl⟩
theorem farZ (w : World) (x : Option Nat) (i : Int) (j : Int) (h : IsZ w x) : Calls Try.prog 12 #[ptrZ x, .int .i64 i, .int .i64 j] w fun e w' => e = .returned (.int .i64 (-1)) ∧ w = w' := by
  have HH := Lib.hid (hasZ w x i h)
  clear h
  go_enter Try.func12, Try.ntmps12
  go_wp2_with fail
  refine HH.out.mono ?_
  rintro en w' ⟨rfl, rfl⟩
  go_wp2
  go_ret
  exact ⟨rfl, rfl⟩
theorem meetZ (w : World) (x : Option Nat) (i j : Int) (h : IsZ w x) : Calls Try.prog 13 #[ptrZ x, .int .i64 i, .int .i64 j] w fun e w' => e = .returned (.int .i64 (-1)) ∧ w = w' := by
  have HH := Lib.hid (farZ w x i j h)
  clear h
  go_enter Try.func13, Try.ntmps13
  go_wp2_with fail
  refine HH.out.mono ?_
  rintro en w' ⟨rfl, rfl⟩
  go_wp2
  go_ret
  exact ⟨rfl, rfl⟩
theorem matesZ (w : World) (x : Option Nat) (i : Int) (h : IsZ w x) : Calls Try.prog 15 #[ptrZ x, .int .i64 i] w (TellsZ w x (.int .i64 0)) := by
  have HN := Lib.hid (nodesZ w x h)
  have H := Lib.hid h
  clear h
  by_cases h0 : i < 0
  · go_enter Try.func15, Try.ntmps15
    go_wp2
    go_ret
    exact ⟨rfl, H.out, Turns.refl _ _⟩
  · have h1 : 0 ≤ i := by omega
    go_enter Try.func15, Try.ntmps15
    go_wp2_with fail
    refine HN.out.mono ?_
    rintro en w1 ⟨rfl, hz⟩
    have HZ := Lib.hid hz
    clear hz
    go_wp2
    go_ret
    exact ⟨rfl, HZ.out⟩
end Go.Proofs.Ytnlpghjlhnhkeaa
