/- Joined: Dm3. -/
import Derived.BigQuiet
import Derived.Deep.QuietTactic
import Derived.Test.YtgilghiegfgjeaaGreatDoorMgDeskMany3
import Derived.Test.YtgilghiegfgjeaaGreatDoorMgDeskMany11
section
set_option linter.unusedVariables false
set_option linter.unusedSimpArgs false
/- DeskMany: the walk of the law. -/
namespace Go.Proofs.YtgilghiegfgjeaaGreatDoor
open Go.RowKit Go.Shelf Dk

theorem Tryz.infoDu : (Tryz.prog.info? 5).map (fun i => (i.zero, i.size, i.bytes)) = some (some (.int .u8 0), 1, 1) := by kernel_rfl
theorem own_cells {w : World} {base g : Nat} {e : TypeId} {n : Nat} {xs : List Value} (h : w.ownsRow base e 1 (.slice (some ⟨g, 0, none⟩) n n) n xs) (hn : 0 < n) : ∃ cur, Blk w g e cur ∧ cur.size = n := by
  rcases h.2 with ⟨h1, h2⟩ | ⟨g', cap, cur, h1, _, hg, hnc, _, hs, _⟩
  · omega
  · injection h1 with h1 _ h2
    injection h1 with h1
    injection h1 with h1 _
    subst h1 h2
    exact ⟨cur, hg, by omega⟩
structure Fil (w wr : World) (N k : Nat) : Prop where
  ex : ∃ cur : Array Value, Blk wr w.heap.size 5 cur ∧ cur.size = N ∧ ∀ i, i < k → cur[i]? = some (.int .u8 32)
  bel : Below w.heap.size w wr
theorem Fil.step {w wr : World} {N k : Nat} (h : Fil w wr N k) (hk : k < N) : Fil w (wr.setCell ⟨w.heap.size, k, none⟩ (.int .u8 32)) N (k + 1) := by
  obtain ⟨cur, h1, h2, h3⟩ := h.ex
  refine ⟨⟨_, h1.set_ k _, by simp [h2], fun i hi => ?_⟩, h.bel.setCell (Nat.le_refl _) _⟩
  by_cases e : i = k
  · subst e
    exact Array.getElem?_setIfInBounds_self_of_lt (by omega)
  · rw [Array.getElem?_setIfInBounds_ne (Ne.symm e)]
    exact h3 i (by omega)
theorem Fil.cell {w wr : World} {N k : Nat} (h : Fil w wr N k) (i : Nat) (hi : i < N) : (∃ z, wr.cell? ⟨w.heap.size, i, none⟩ = some z) ∧ wr.frozen? ⟨w.heap.size, i, none⟩ = false := by
  obtain ⟨cur, h1, h2, h3⟩ := h.ex
  exact ⟨by rw [h1.cell]; exact ⟨cur[i]'(by omega), Array.getElem?_eq_getElem _⟩, h1.free i⟩
/-- the text of N blanks -/
theorem Fil.conv {w wr W : World} {N : Nat} (h : Fil w wr N N) (hW : Below wr.heap.size wr W) {L : List UInt8} (hl : L.length = N) (hb : ∀ b ∈ L, b = 32) :
    (convert 22 9 (.slice (some ⟨w.heap.size, 0, none⟩) N N)).run Tryz.prog W = .ok (.string ⟨L.toArray⟩) W := by
  obtain ⟨cur, h1, h2, h3⟩ := h.ex
  have h1 := h1.below hW h1.lt
  subst hl
  refine conv_bytes (P := Tryz.prog) 22 9 5 Tryz.underlying22 Tryz.underlying5 Tryz.underlying9 L L.length fun j x hx => ?_
  rw [Nat.zero_add, h1.cell, h3 j (List.getElem?_eq_some_iff.1 hx).1, hb x (List.mem_of_getElem? hx)]
  rfl
set_option maxRecDepth 100000 in
set_option maxHeartbeats 4000000 in
theorem many48 (w : World) (m : Int) (hm : 0 ≤ m ∧ m < 256) : Calls Tryz.prog 3 #[.int .u8 m] w fun e w' => e = .returned (.bool true) ∧ Below w.heap.size w w' := by
  obtain ⟨i0, hi, hz0, hz1, hz2⟩ := info_parts Tryz.infoDu
  obtain ⟨N, hN⟩ : ∃ N : Nat, N = 20000 := ⟨_, rfl⟩
  obtain ⟨w4, hrun, hown, hg⟩ := run_make_full (P := Tryz.prog) w w.heap.size 22 5 i0 (.int .u8 0) 1 Tryz.underlying22 hi hz0 hz1 .i64 .i64 N (by rw [hz2]; omega) (by unfold maxLen; omega) (Nat.le_refl _)
  obtain ⟨cur, hB, hcs⟩ := own_cells hown (by omega)
  have F0 : Hid (Fil w w4 N 0) := Lib.hid ⟨⟨cur, hB, hcs, fun i hi => by omega⟩, (Below.refl _ _).grown hg (Nat.le_refl _) (fun j hj => by cases hj)⟩
  have hrun' : (Instr.makeSlice 22 (.int .i64 20000) (.int .i64 20000)).run Tryz.prog w = .ok (.slice (some ⟨w.heap.size, 0, none⟩) N N) w4 := by
    have := hrun
    rw [hN] at this ⊢
    exact this
  obtain ⟨L, hL⟩ : ∃ L : List UInt8, L = List.replicate N 32 := ⟨_, rfl⟩
  have hL1 : L.length = N := by rw [hL, List.length_replicate]
  have hL2 : ∀ b ∈ L, b = 32 := by rw [hL]; exact fun b hb => List.eq_of_mem_replicate hb
  obtain ⟨S, hS⟩ : ∃ S : ByteArray, S = ⟨L.toArray⟩ := ⟨_, rfl⟩
  have hS1 : S.size = N := by rw [hS, ← hL1]; rfl
  have hS2 : ∀ b ∈ S.data.toList, b = 32 := by rw [hS]; exact hL2
  have HS := Lib.hid (And.intro hN (And.intro hL1 (And.intro hL2 (And.intro hS (And.intro hS1 hS2)))))
  have hNi : (N : Int) = 20000 := by omega
  have HN := Lib.hid hNi
  clear hrun hown hg hi hz0 hz1 hz2 hB hcs hL hL1 hL2 hS hS1 hS2 hN hNi
  go_enter Tryz.func3, Tryz.ntmps3
  go_wp2
  go_loopw [4] (fun j wr => ∃ k : Nat, j = .int .i64 k ∧ k ≤ N ∧ Fil w wr N k) (fun j _ => N - (intOf j).toNat)
  case atStart => exact ⟨0, rfl, by omega, F0.out⟩
  case round =>
    obtain ⟨k, rfl, hk, hF⟩ := hrel
    obtain ⟨wo, rfl⟩ : ∃ wo : World, wo = wr := ⟨_, rfl⟩
    have hb : (N : Int) ≤ 20000 := by rw [HN.out]; omega
    by_cases hlt : k < N
    · obtain ⟨⟨z, hz⟩, hfz⟩ := hF.cell k hlt
      have HF := Lib.hid hF
      clear hF
      go_wp2
      go_roundw
      case rel => exact ⟨k + 1, by go_num, by omega, HF.out.step hlt⟩
      case measure => simp [intOf]; omega
    · have hkN : k = N := by omega
      subst hkN
      have HF := Lib.hid hF
      have HCV : Hid (∀ W, Below wo.heap.size wo W → (convert 22 9 (.slice (some ⟨w.heap.size, 0, none⟩) k k)).run Tryz.prog W = .ok (.string S) W) := Lib.hid fun W hW => by
        rw [HS.out.2.2.2.1]
        exact HF.out.conv hW HS.out.2.1 HS.out.2.2.1
      have hcv := HCV.out wo (Below.refl _ _)
      clear hF
      go_wp2_with fail
      refine (desk_blank wo S (by rw [HS.out.2.2.2.2.1]; exact HS.out.1) HS.out.2.2.2.2.2).mono ?_
      rintro e w5 ⟨rfl, hb5⟩
      have H5 := Lib.hid (And.intro hb5 (HF.out.bel.trans (hb5.mono HF.out.bel.size)))
      clear hb5 hcv
      have herr : (errN.toList == [101, 114, 114, 111, 114, 32, 49, 10]) = true := by rw [ByteArray.toList_eq]; rfl
      have hwm : IntKind.i64.wrap m = m := IntWalk.i64_in _ (by omega)
      rcases (show m % 2 = 0 ∨ m % 2 = 1 by omega) with h2 | h2
      · obtain ⟨U, hU⟩ : ∃ U : ByteArray, U = S ++ ⟨#[32]⟩ := ⟨_, rfl⟩
        have r1 : ∀ W : World, (Op.stringOp .add S ⟨#[32]⟩).run Tryz.prog W = .ok (.string U) W := fun W => by rw [hU]; exact run_string_add_sum W _ _ (by rw [HS.out.2.2.2.2.1]; show k + 1 ≤ _; omega)
        have hUs : 20000 < U.size := by rw [hU, ByteArray.size_append, HS.out.2.2.2.2.1]; show 20000 < k + 1; have := HS.out.1; omega
        have HD := Lib.hid fun W : World => (desk_long W U hUs)
        have e1 : m.tmod 2 = 0 := by rw [Int.tmod_eq_emod_of_nonneg hm.1]; exact h2
        have e2 : IntKind.i64.wrap (1 + 0) = 1 := rfl
        have hsl : ∀ W : World, (Instr.slice 9 (.string ⟨#[32, 32]⟩) none (some (.int .i64 1)) none).run Tryz.prog W = .ok (.string ⟨#[32]⟩) W := fun W => by kernel_rfl
        have hcv : ∀ n, (convert 22 9 (.slice (some ⟨w.heap.size, 0, none⟩) k k)).run Tryz.prog (w5.drewN n) = .ok (.string S) (w5.drewN n) := fun n => HCV.out _ (below_drewN H5.out.1 n)
        clear hU hUs h2
        go_wp2_with fail
        go_quiet ((go_at_call 5; exact quiet_left ((HD.out _).mono fun e w' h => ⟨h.1, h.2.symm⟩)))
        have Hq := Lib.hid (H5.out.2.trans ((Qt.below ⟨_, rfl⟩ _ : Below _ w5 (w5.drewN nq)).mono H5.out.2.size))
        clear hsl r1 hcv e1 e2
        go_wp2_with fail
        refine (awake48 _).mono ?_
        rintro e w7 ⟨rfl, hb7⟩
        have H7 := Lib.hid (Hq.out.trans (hb7.mono Hq.out.size))
        clear hb7
        go_wp2
        go_ret
        exact ⟨rfl, H7.out⟩
      · obtain ⟨U, hU⟩ : ∃ U : ByteArray, U = S ++ ⟨#[32, 32]⟩ := ⟨_, rfl⟩
        have r1 : ∀ W : World, (Op.stringOp .add S ⟨#[32, 32]⟩).run Tryz.prog W = .ok (.string U) W := fun W => by rw [hU]; exact run_string_add_sum W _ _ (by rw [HS.out.2.2.2.2.1]; show k + 2 ≤ _; omega)
        have hUs : 20000 < U.size := by rw [hU, ByteArray.size_append, HS.out.2.2.2.2.1]; show 20000 < k + 2; have := HS.out.1; omega
        have HD := Lib.hid fun W : World => (desk_long W U hUs)
        have e1 : m.tmod 2 = 1 := by rw [Int.tmod_eq_emod_of_nonneg hm.1]; exact h2
        have e2 : IntKind.i64.wrap (1 + 1) = 2 := rfl
        have hsl : ∀ W : World, (Instr.slice 9 (.string ⟨#[32, 32]⟩) none (some (.int .i64 2)) none).run Tryz.prog W = .ok (.string ⟨#[32, 32]⟩) W := fun W => by kernel_rfl
        have hcv : ∀ n, (convert 22 9 (.slice (some ⟨w.heap.size, 0, none⟩) k k)).run Tryz.prog (w5.drewN n) = .ok (.string S) (w5.drewN n) := fun n => HCV.out _ (below_drewN H5.out.1 n)
        clear hU hUs h2
        go_wp2_with fail
        go_quiet ((go_at_call 5; exact quiet_left ((HD.out _).mono fun e w' h => ⟨h.1, h.2.symm⟩)))
        have Hq := Lib.hid (H5.out.2.trans ((Qt.below ⟨_, rfl⟩ _ : Below _ w5 (w5.drewN nq)).mono H5.out.2.size))
        clear hsl r1 hcv e1 e2
        go_wp2_with fail
        refine (awake48 _).mono ?_
        rintro e w7 ⟨rfl, hb7⟩
        have H7 := Lib.hid (Hq.out.trans (hb7.mono Hq.out.size))
        clear hb7
        go_wp2
        go_ret
        exact ⟨rfl, H7.out⟩
end Go.Proofs.YtgilghiegfgjeaaGreatDoor
end
