/- Layer 40: Name and Kind, the program's and the document's. -/
import Derived.Test.YtgbfbeohmogadaaGreatRows
import Derived.Test.YtgbfbeohmogadaaGreatTurn
import Derived.Test.YtgbfbeohmogadaaGreatLna1
import Derived.RegionCalls
import Derived.Laws.Strings
import Derived.WideShapes
namespace Go.Proofs.YtgbfbeohmogadaaGreat
open Go.RowKit Go.WideShapes

set_option maxRecDepth 100000 in
set_option maxHeartbeats 4000000 in
theorem name_any (w : World) (n : Int) : Calls Tryz.prog 17 #[.int .i64 n] w fun e w' => e = .returned (.string (nameS n)) ∧ Below w.heap.size w w' := by
  rcases (show n < 0 ∨ 14 ≤ n ∨ n = 0 ∨ n = 1 ∨ n = 2 ∨ n = 3 ∨ n = 4 ∨ n = 5 ∨ n = 6 ∨ n = 7 ∨ n = 8 ∨ n = 9 ∨ n = 10 ∨ n = 11 ∨ n = 12 ∨ n = 13 by omega) with h | h | rfl | rfl | rfl | rfl | rfl | rfl | rfl | rfl | rfl | rfl | rfl | rfl | rfl | rfl
  · have e : nameS n = ⟨#[]⟩ := by unfold nameS; rw [show n.toNat = 0 by omega]; rfl
    rw [e]
    clear e
    go_enter Tryz.func17, Tryz.ntmps17
    go_wp2
    go_ret
    exact ⟨rfl, (Below.refl _ _).alloc (Nat.le_refl _) _⟩
  · have e : nameS n = ⟨#[]⟩ := nmB_out (by omega)
    rw [e]
    clear e
    go_enter Tryz.func17, Tryz.ntmps17
    go_wp2
    go_ret
    exact ⟨rfl, (Below.refl _ _).alloc (Nat.le_refl _) _⟩
  all_goals
    go_enter Tryz.func17, Tryz.ntmps17
    go_wp2
    go_ret
    exact ⟨rfl, (Below.refl _ _).alloc (Nat.le_refl _) _⟩
theorem str_ne {a b : ByteArray} (h : ¬ a = b) : (a.toList == b.toList) = false := by
  rw [ByteArray.toList_eq, ByteArray.toList_eq]
  simp only [beq_eq_false_iff_ne, ne_eq]
  exact fun e => h (bytes_inj e)
theorem str_eq {a b : ByteArray} (h : a = b) : (a.toList == b.toList) = true := by rw [h]; simp
set_option maxHeartbeats 1000000 in
theorem kind_any (w : World) (s : ByteArray) : Calls Tryz.prog 15 #[.string s] w fun e w' => ∃ k : Nat, e = .returned (.int .i64 k) ∧ KindIs s k ∧ Below w.heap.size w w' := by
  go_enter Tryz.func15, Tryz.ntmps15
  go_wp2
  go_loopw [3] (fun j wr => ∃ k : Nat, j = .int .i64 k ∧ 1 ≤ k ∧ k ≤ 14 ∧ (∀ i, 1 ≤ i → i < k → nmB i ≠ s) ∧ Below w.heap.size w wr) (fun j _ => 14 - (intOf j).toNat)
  case atStart => exact ⟨1, rfl, by omega, by omega, fun i h1 h2 => by omega, Below.refl _ _⟩
  case round =>
    obtain ⟨k, rfl, h1, h14, hall, hB⟩ := hrel
    obtain ⟨wo, rfl⟩ : ∃ wo : World, wo = wr := ⟨_, rfl⟩
    have HB := Lib.hid (And.intro hB hall)
    clear hB hall
    by_cases hk : k = 14
    · subst hk
      go_wp2_with fail
      refine (name_any _ _).mono ?_
      rintro en w1 ⟨rfl, b1⟩
      have H1 := Lib.hid (HB.out.1.trans (b1.mono HB.out.1.size))
      clear b1
      have e : nameS 14 = ⟨#[]⟩ := rfl
      rw [e]
      go_wp2
      go_ret
      exact ⟨0, rfl, .inl ⟨rfl, fun i h1 h2 => HB.out.2 i h1 (by omega)⟩, H1.out⟩
    · have hne := nmB_ne k h1 (by omega)
      obtain ⟨ne1, ne2⟩ := hne
      go_wp2_with fail
      refine (name_any _ _).mono ?_
      rintro en w1 ⟨rfl, b1⟩
      have H1 := Lib.hid (HB.out.1.trans (b1.mono HB.out.1.size))
      clear b1
      have e : nameS (k : Int) = nmB k := rfl
      rw [e]
      go_wp2_with fail
      refine (name_any _ _).mono ?_
      rintro en w2 ⟨rfl, b2⟩
      have H2 := Lib.hid (H1.out.trans (b2.mono H1.out.size))
      clear b2
      rw [e]
      by_cases hs : nmB k = s
      · have he : ((nmB k).toList == s.toList) = true := by rw [hs]; simp
        have HS := Lib.hid hs
        clear hs
        go_wp2
        go_ret
        exact ⟨k, rfl, .inr ⟨h1, by omega, HS.out⟩, H2.out⟩
      · have he : ((nmB k).toList == s.toList) = false := str_ne hs
        have HS := Lib.hid hs
        clear hs
        go_wp2
        go_roundw
        case rel =>
          refine ⟨k + 1, by go_num, by omega, by omega, fun i h1 h2 => ?_, H2.out⟩
          by_cases e : i = k
          · subst e; exact HS.out
          · exact HB.out.2 i h1 (by omega)
        case measure => simp [intOf]; omega
set_option maxRecDepth 100000 in
set_option maxHeartbeats 4000000 in
theorem names_any (w : World) : Calls Tryz.prog 58 #[] w fun e w' => ∃ g cs, e = .returned (.slice (some ⟨g, 0, none⟩) 13 13) ∧ Blk w' g 9 cs ∧ (∀ i, i < 13 → cs[i]? = some (.string (nmB (i + 1)))) ∧ Below w.heap.size w w' := by
  go_enter Tryz.func58, Tryz.ntmps58
  go_wp2
  go_ret
  refine ⟨w.heap.size, _, rfl, Blk.new _ _ _, ?_, (Below.refl _ _).alloc (Nat.le_refl _) _⟩
  intro i hi
  rcases (show i = 0 ∨ i = 1 ∨ i = 2 ∨ i = 3 ∨ i = 4 ∨ i = 5 ∨ i = 6 ∨ i = 7 ∨ i = 8 ∨ i = 9 ∨ i = 10 ∨ i = 11 ∨ i = 12 by omega) with rfl | rfl | rfl | rfl | rfl | rfl | rfl | rfl | rfl | rfl | rfl | rfl | rfl <;> rfl
set_option maxHeartbeats 1000000 in
theorem rname_any (w : World) (n : Int) : Calls Tryz.prog 19 #[.int .i64 n] w fun e w' => e = .returned (.string (nameS n)) ∧ Below w.heap.size w w' := by
  by_cases h1 : n < 1
  · rw [show nameS n = ⟨#[]⟩ by unfold nameS; rw [show n.toNat = 0 by omega]; rfl]
    go_enter Tryz.func19, Tryz.ntmps19
    go_wp2_with fail
    refine (names_any w).mono ?_
    rintro en w1 ⟨g, cs, rfl, hB, hc, b1⟩
    have H1 := Lib.hid b1
    clear hB hc b1
    go_wp2
    go_ret
    exact ⟨rfl, H1.out⟩
  by_cases h2 : 13 < n
  · rw [show nameS n = ⟨#[]⟩ from nmB_out (by omega)]
    go_enter Tryz.func19, Tryz.ntmps19
    go_wp2_with fail
    refine (names_any w).mono ?_
    rintro en w1 ⟨g, cs, rfl, hB, hc, b1⟩
    have H1 := Lib.hid b1
    clear hB hc b1
    go_wp2
    go_ret
    exact ⟨rfl, H1.out⟩
  obtain ⟨k, rfl⟩ : ∃ k : Nat, n = ((k + 1 : Nat) : Int) := ⟨n.toNat - 1, by omega⟩
  have h3 : k < 13 := by omega
  have h4 : (k : Int) < 13 := by omega
  obtain ⟨s, hs⟩ : ∃ s, s = nameS ((k + 1 : Nat) : Int) := ⟨_, rfl⟩
  rw [← hs]
  have HS := Lib.hid hs
  clear hs
  go_enter Tryz.func19, Tryz.ntmps19
  go_wp2_with fail
  refine (names_any w).mono ?_
  rintro en w1 ⟨g, cs, rfl, hB, hc, b1⟩
  have H1 := Lib.hid b1
  have hc1 : w1.cell? ⟨g, k, none⟩ = some (.string s) := by
    rw [hB.cell k, hc k (by omega), HS.out]
    rfl
  clear hB hc b1
  go_wp2
  go_ret
  exact ⟨rfl, H1.out⟩
set_option maxHeartbeats 1000000 in
theorem rkind_any (w : World) (s : ByteArray) : Calls Tryz.prog 18 #[.string s] w fun e w' => ∃ k : Nat, e = .returned (.int .i64 k) ∧ KindIs s k ∧ Below w.heap.size w w' := by
  go_enter Tryz.func18, Tryz.ntmps18
  go_wp2
  go_loopw [3] (fun j wr => ∃ k : Nat, j = .int .i64 k ∧ 1 ≤ k ∧ k ≤ 14 ∧ (∀ i, 1 ≤ i → i < k → nmB i ≠ s) ∧ Below w.heap.size w wr) (fun j _ => 14 - (intOf j).toNat)
  case atStart => exact ⟨1, rfl, by omega, by omega, fun i h1 h2 => by omega, Below.refl _ _⟩
  case round =>
    obtain ⟨k, rfl, h1, h14, hall, hB⟩ := hrel
    obtain ⟨wo, rfl⟩ : ∃ wo : World, wo = wr := ⟨_, rfl⟩
    have HB := Lib.hid (And.intro hB hall)
    clear hB hall
    by_cases hk : k = 14
    · subst hk
      go_wp2
      go_ret
      exact ⟨0, rfl, .inl ⟨rfl, fun i h1 h2 => HB.out.2 i h1 (by omega)⟩, HB.out.1⟩
    · go_wp2_with fail
      refine (rname_any _ _).mono ?_
      rintro en w1 ⟨rfl, b1⟩
      have H1 := Lib.hid (HB.out.1.trans (b1.mono HB.out.1.size))
      clear b1
      have e : nameS (k : Int) = nmB k := rfl
      rw [e]
      by_cases hs : nmB k = s
      · have he : ((nmB k).toList == s.toList) = true := str_eq hs
        have HS := Lib.hid hs
        clear hs
        go_wp2
        go_ret
        exact ⟨k, rfl, .inr ⟨h1, by omega, HS.out⟩, H1.out⟩
      · have he : ((nmB k).toList == s.toList) = false := str_ne hs
        have HS := Lib.hid hs
        clear hs
        go_wp2
        go_roundw
        case rel =>
          refine ⟨k + 1, by go_num, by omega, by omega, fun i h1 h2 => ?_, H1.out⟩
          by_cases e : i = k
          · subst e; exact HS.out
          · exact HB.out.2 i h1 (by omega)
        case measure => simp [intOf]; omega
end Go.Proofs.YtgbfbeohmogadaaGreat
