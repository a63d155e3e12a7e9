/- Layer 1: the document's arena: Load, Store, Swap, Cas, At. -/
import Derived.Test.YthgpjiebeinamaaRa1
namespace Go.Proofs.Ythgpjiebeinamaa
open Go.RowKit

theorem rload_any {w : World} {b gw cap : Nat} {s : Ar} (h : RaIs w b gw cap s) (x : Int) (ho : s.ops + 1 ≤ 1000000000000) :
    Calls Try.prog 69 #[.pointer (some ⟨b, 0, none⟩), .int .i64 x] w (RopOk w b gw cap (loadA s x) (.int .i64 (ldW s.W x))) := by
  have H := Lib.hid h
  clear h
  obtain ⟨r, hr⟩ : ∃ r, r = ldW s.W x := ⟨_, rfl⟩
  obtain ⟨i, hi⟩ : ∃ i, i = inR s.W x := ⟨_, rfl⟩
  have R := rop_any H.out 1 x 0 false ho
  rw [← hr, ← hi] at R
  rw [← hr]
  have HR := Lib.hid R
  clear R hr hi
  go_enter Try.func69, Try.ntmps69
  go_wp2_with fail
  refine HR.out.mono ?_
  rintro en w1 ⟨rfl, h1, t1⟩
  have H1 := Lib.hid (And.intro h1 t1)
  clear h1 t1
  go_wp2
  go_ret
  exact ⟨rfl, H1.out.1, H1.out.2⟩
theorem rstore_any {w : World} {b gw cap : Nat} {s : Ar} (h : RaIs w b gw cap s) (x v : Int) (ho : s.ops + 1 ≤ 1000000000000) :
    Calls Try.prog 65 #[.pointer (some ⟨b, 0, none⟩), .int .i64 x, .int .i64 v] w (RopOk w b gw cap (storeA s x v) (.tuple #[])) := by
  have HR := Lib.hid (rop_any h 2 x v true ho)
  clear h
  go_enter Try.func65, Try.ntmps65
  go_wp2_with fail
  refine HR.out.mono ?_
  rintro en w1 ⟨rfl, h1, t1⟩
  have H1 := Lib.hid (And.intro h1 t1)
  clear h1 t1
  go_wp2
  go_end0
  exact ⟨rfl, H1.out.1, H1.out.2⟩
theorem rswap_any {w : World} {b gw cap : Nat} {s : Ar} (h : RaIs w b gw cap s) (x v : Int) (ho : s.ops + 1 ≤ 1000000000000) :
    Calls Try.prog 68 #[.pointer (some ⟨b, 0, none⟩), .int .i64 x, .int .i64 v] w (RopOk w b gw cap (swapA s x v) (.int .i64 (ldW s.W x))) := by
  obtain ⟨r, hr⟩ : ∃ r, r = ldW s.W x := ⟨_, rfl⟩
  obtain ⟨i, hi⟩ : ∃ i, i = inR s.W x := ⟨_, rfl⟩
  have R := rop_any h 3 x v true ho
  rw [← hr, ← hi] at R
  rw [← hr]
  have HR := Lib.hid R
  clear R hr hi h
  go_enter Try.func68, Try.ntmps68
  go_wp2_with fail
  refine HR.out.mono ?_
  rintro en w1 ⟨rfl, h1, t1⟩
  have H1 := Lib.hid (And.intro h1 t1)
  clear h1 t1
  go_wp2
  go_ret
  exact ⟨rfl, H1.out.1, H1.out.2⟩
theorem rat_any {w : World} {b gw cap : Nat} {s : Ar} (h : RaIs w b gw cap s) (x : Int) :
    Calls Try.prog 102 #[.pointer (some ⟨b, 0, none⟩), .int .i64 x] w fun e w' => e = .returned (.int .i64 (ldW s.W x)) ∧ w = w' := by
  have c1 := h.c1
  have hlen := h.len
  cases hx : inR s.W x
  · have hn := inR_false.1 hx
    have E := Lib.hid (ldW_out hx)
    clear h hx
    by_cases h1 : x < 1
    · clear hn
      go_enter Try.func102, Try.ntmps102
      go_wp2
      go_ret
      exact ⟨by rw [E.out]; rfl, rfl⟩
    · have h2 : (s.W.length : Int) < x := by omega
      clear hn
      go_enter Try.func102, Try.ntmps102
      go_wp2
      go_ret
      exact ⟨by rw [E.out]; rfl, rfl⟩
  · obtain ⟨w0, wf, wl⟩ := h.word hx
    have h12 := inR_true.1 hx
    have t1 : ¬ x < 1 := by omega
    have t2 : ¬ (s.W.length : Int) < x := by omega
    obtain ⟨m, hm⟩ : ∃ m : Nat, x = ((m + 1 : Nat) : Int) := ⟨x.toNat - 1, by omega⟩
    subst hm
    rw [show ((m + 1 : Nat) : Int).toNat - 1 = m by omega] at w0
    have hm5 : (m : Int) < s.W.length := by omega
    have hm4 : m < s.W.length := by omega
    obtain ⟨r, hr⟩ : ∃ r, r = ldW s.W ((m + 1 : Nat) : Int) := ⟨_, rfl⟩
    rw [← hr] at w0 ⊢
    clear h hx h12 hr wf
    go_enter Try.func102, Try.ntmps102
    go_wp2
    go_ret
    exact ⟨rfl, rfl⟩
theorem rcas_any {w : World} {b gw cap : Nat} {s : Ar} (h : RaIs w b gw cap s) (x old v : Int) (ho : s.ops + 1 ≤ 1000000000000) :
    Calls Try.prog 70 #[.pointer (some ⟨b, 0, none⟩), .int .i64 x, .int .i64 old, .int .i64 v] w (RopOk w b gw cap (casA s x old v) (.bool (casB s x old))) := by
  have HA := Lib.hid (rat_any h x)
  obtain ⟨r, hr⟩ : ∃ r, r = ldW s.W x := ⟨_, rfl⟩
  rw [← hr] at HA
  cases hq : (r == old)
  · have R := rop_any h 4 x v false ho
    obtain ⟨i, hi⟩ : ∃ i, i = inR s.W x := ⟨_, rfl⟩
    have e1 : casB s x old = false := by
      unfold casB
      rw [← hr]
      have : ¬ r = old := by simpa using hq
      simp [this]
    have e2 : casA s x old v = ropA s 4 x v false := by unfold casA ropA; rw [e1]
    rw [← hr, ← hi] at R
    have HR := Lib.hid (And.intro R (And.intro e1 e2))
    clear R hr h e1 e2 hi
    go_enter Try.func70, Try.ntmps70
    go_wp2_with fail
    refine HA.out.mono ?_
    rintro en w1 ⟨rfl, rfl⟩
    go_wp2_with fail
    refine HR.out.1.mono ?_
    rintro en w1 ⟨rfl, h1, t1⟩
    have H1 := Lib.hid (And.intro h1 t1)
    clear h1 t1
    cases i
    all_goals
      go_wp2
      go_ret
      rw [HR.out.2.1, HR.out.2.2]
      exact ⟨rfl, H1.out.1, H1.out.2⟩
  · have R := rop_any h 4 x v true ho
    cases hi : inR s.W x
    all_goals
      rw [← hr, hi] at R
      have e1 : casB s x old = inR s.W x := by
        unfold casB
        rw [← hr]
        have : r = old := by simpa using hq
        simp [this]
      rw [hi] at e1
      have e2 : casA s x old v = ropA s 4 x v true := by
        unfold casA ropA; rw [e1]
        try (simp only [Bool.false_eq_true, if_false, if_true]; rw [noteA_out s _ _ _ hi, noteA_out s _ _ _ hi, wrA_out s _ _ hi])
      have HR := Lib.hid (And.intro R (And.intro e1 e2))
      clear R hr h e1 e2 hi
      go_enter Try.func70, Try.ntmps70
      go_wp2_with fail
      refine HA.out.mono ?_
      rintro en w1 ⟨rfl, rfl⟩
      go_wp2_with fail
      refine HR.out.1.mono ?_
      rintro en w1 ⟨rfl, h1, t1⟩
      have H1 := Lib.hid (And.intro h1 t1)
      clear h1 t1
      go_wp2
      go_ret
      rw [HR.out.2.1, HR.out.2.2]
      exact ⟨rfl, H1.out.1, H1.out.2⟩
end Go.Proofs.Ythgpjiebeinamaa
