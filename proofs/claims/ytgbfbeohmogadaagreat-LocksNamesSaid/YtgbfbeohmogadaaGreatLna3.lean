/- The walk of LocksNames. -/
import Derived.Test.YtgbfbeohmogadaaGreatLna2
import Derived.Test.YtgbfbeohmogadaaGreatAw4
namespace Go.Proofs.YtgbfbeohmogadaaGreat
open Go.RowKit Go.WideShapes

set_option maxRecDepth 100000 in
set_option maxHeartbeats 4000000 in
theorem names40 (w : World) (s : ByteArray) (n : Int) : Calls Tryz.prog 4 #[.string s, .int .i64 n] w fun e w' => e = .returned (.bool true) ∧ Below w.heap.size w w' := by
  by_cases hl : 100 < s.size
  · have hl2 : (100 : Int) < (s.size : Int) := by omega
    go_enter Tryz.func4, Tryz.ntmps4
    go_wp2_with fail
    refine (kind_any w s).mono ?_
    rintro en w1 ⟨k, rfl, hk, b1⟩
    obtain rfl := hk.long hl
    have H1 := Lib.hid b1
    clear hk b1
    go_wp2_with fail
    refine (awake40 _).mono ?_
    rintro en w2 ⟨rfl, b2⟩
    have H2 := Lib.hid (H1.out.trans (b2.mono H1.out.size))
    clear b2
    go_wp2
    go_ret
    exact ⟨rfl, H2.out⟩
  · have hl2 : ¬ (100 : Int) < (s.size : Int) := by omega
    clear hl
    obtain ⟨t, ht⟩ : ∃ t, t = nameS n := ⟨_, rfl⟩
    have HN := Lib.hid (fun w => name_any w n)
    have HR := Lib.hid (fun w => rname_any w n)
    rw [← ht] at HN HR
    have HT := Lib.hid ht
    clear ht
    have htt : (t.toList == t.toList) = true := by simp
    go_enter Tryz.func4, Tryz.ntmps4
    go_wp2_with fail
    refine (kind_any w s).mono ?_
    rintro en w1 ⟨k, rfl, hk, b1⟩
    have HK := Lib.hid hk
    have H1 := Lib.hid b1
    clear hk b1
    go_wp2_with fail
    refine (HN.out _).mono ?_
    rintro en w2 ⟨rfl, b2⟩
    have H2 := Lib.hid (H1.out.trans (b2.mono H1.out.size))
    clear b2
    go_wp2_with fail
    refine (rkind_any _ s).mono ?_
    rintro en w3 ⟨k', rfl, hk', b3⟩
    obtain rfl := HK.out.uniq hk'
    have H3 := Lib.hid (H2.out.trans (b3.mono H2.out.size))
    clear b3 hk'
    go_wp2_with fail
    refine (HR.out _).mono ?_
    rintro en w4 ⟨rfl, b4⟩
    have H4 := Lib.hid (H3.out.trans (b4.mono H3.out.size))
    clear b4
    -- the two laws' tails
    have fin : ∀ W, Below w.heap.size w W → Calls Tryz.prog 16 #[] W fun e w' => e = .returned (.bool true) ∧ Below w.heap.size w w' := fun W hW => (awake40 W).mono fun e w' ⟨h1, h2⟩ => ⟨h1, hW.trans (h2.mono hW.size)⟩
    have FIN := Lib.hid fin
    clear fin
    have hname : k = 0 ∨ (1 ≤ k ∧ nameS (k : Int) = s) := by
      rcases HK.out with ⟨h, _⟩ | ⟨h1, _, h3⟩
      · exact .inl h
      · exact .inr ⟨h1, h3⟩
    by_cases hz : t = ⟨#[]⟩
    · subst hz
      rcases hname with rfl | ⟨h1, hks⟩
      · go_wp2_with fail
        refine (FIN.out _ H4.out).mono ?_
        rintro en w5 ⟨rfl, b5⟩
        have H5 := Lib.hid b5
        clear b5
        go_wp2
        go_ret
        exact ⟨rfl, H5.out⟩
      · have hk0 : ((k : Int) == 0) = false := by simp; omega
        have hss : (s.toList == s.toList) = true := by simp
        have HKS := Lib.hid hks
        clear hks
        go_wp2_with fail
        refine (name_any _ k).mono ?_
        rintro en w5 ⟨rfl, b5⟩
        rw [HKS.out]
        have H5 := Lib.hid (H4.out.trans (b5.mono H4.out.size))
        clear b5
        go_wp2_with fail
        refine (FIN.out _ H5.out).mono ?_
        rintro en w6 ⟨rfl, b6⟩
        have H6 := Lib.hid b6
        clear b6
        go_wp2
        go_ret
        exact ⟨rfl, H6.out⟩
    · have hte : (t.toList == []) = false := by
        have := str_ne hz
        simpa [ByteArray.toList_eq] using this
      have hte2 : t.toList.isEmpty = false := by
        cases h : t.toList with
        | nil => rw [h] at hte; simp at hte
        | cons a l => rfl
      have hte3 : ¬ t.toList = [] := by intro e; rw [e] at hte; simp at hte
      have HZ := Lib.hid hz
      clear hz
      have kindT : ∀ W, Below w.heap.size w W → Calls Tryz.prog 15 #[.string t] W fun e w' => e = .returned (.int .i64 n) ∧ Below w.heap.size w w' := fun W hW => (kind_any W t).mono fun e w' ⟨j, h1, h2, h3⟩ => by
        rw [HT.out] at h2
        rcases h2.name with h4 | h4
        · exact absurd (HT.out.trans h4) HZ.out
        · exact ⟨by rw [h1, h4], hW.trans (h3.mono hW.size)⟩
      have KT := Lib.hid kindT
      clear kindT
      rcases hname with rfl | ⟨h1, hks⟩
      · go_wp2_with fail
        refine (KT.out _ H4.out).mono ?_
        rintro en w5 ⟨rfl, b5⟩
        have H5 := Lib.hid b5
        clear b5
        go_wp2_with fail
        refine (FIN.out _ H5.out).mono ?_
        rintro en w6 ⟨rfl, b6⟩
        have H6 := Lib.hid b6
        clear b6
        go_wp2
        go_ret
        exact ⟨rfl, H6.out⟩
      · have hk0 : ((k : Int) == 0) = false := by simp; omega
        have hss : (s.toList == s.toList) = true := by simp
        have HKS := Lib.hid hks
        clear hks
        go_wp2_with fail
        refine (name_any _ k).mono ?_
        rintro en w5 ⟨rfl, b5⟩
        rw [HKS.out]
        have H5 := Lib.hid (H4.out.trans (b5.mono H4.out.size))
        clear b5
        go_wp2_with fail
        refine (KT.out _ H5.out).mono ?_
        rintro en w6 ⟨rfl, b6⟩
        have H6 := Lib.hid b6
        clear b6
        go_wp2_with fail
        refine (FIN.out _ H6.out).mono ?_
        rintro en w7 ⟨rfl, b7⟩
        have H7 := Lib.hid b7
        clear b7
        go_wp2
        go_ret
        exact ⟨rfl, H7.out⟩
end Go.Proofs.YtgbfbeohmogadaaGreat
