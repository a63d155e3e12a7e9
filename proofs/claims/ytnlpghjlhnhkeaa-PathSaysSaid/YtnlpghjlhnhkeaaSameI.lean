/- When two lists of numbers are the same. -/
import Derived.Test.YtnlpghjlhnhkeaaRows
import Derived.Test.YtnlpghjlhnhkeaaBase
namespace Go.Proofs.Ytnlpghjlhnhkeaa
open Go.RowKit
set_option maxRecDepth 100000 in
set_option maxHeartbeats 1000000 in
theorem sameInt_any (w : World) (v1 v2 : Value) (a b : List (Int)) (h1 : RdL w v1 1 encI a) (h2 : RdL w v2 1 encI b) :
    Calls Try.prog 22 #[v1, v2] w fun e w' => e = .returned (.bool (decide (a = b))) ∧ Qt w w' := by
  obtain ⟨A1, c1, rfl, l1, m1, r1⟩ := h1
  obtain ⟨A2, c2, rfl, l2, m2, r2⟩ := h2
  by_cases hn : a.length = b.length
  · have hne : ((a.length : Int) == (b.length : Int)) = true := by rw [beq_iff_eq]; omega
    have hne2 : ((a.length : Int) != (b.length : Int)) = false := by rw [bne_eq_false_iff_eq]; omega
    have HN := Lib.hid hn
    clear hn
    go_enter Try.func22, Try.ntmps22
    go_wp2_with fail
    go_loopw [5] (fun i w' => ∃ k n : Nat, k ≤ a.length ∧ i = .int .i64 k ∧ w' = w.drewN n ∧ a.take k = b.take k) (fun i _ => a.length - (intOf i).toNat)
    case atStart => exact ⟨0, 0, by omega, rfl, rfl, rfl⟩
    case round =>
      obtain ⟨k, n, hk, rfl, rfl, hall⟩ := hrel
      have HA := Lib.hid hall
      clear hall
      by_cases hlt : k < a.length
      · have hlt2 : k < b.length := by have := HN.out; omega
        obtain ⟨b1, o1, rfl, hb1, hc1⟩ := r1 (by omega)
        obtain ⟨b2, o2, rfl, hb2, hc2⟩ := r2 (by omega)
        obtain ⟨x0, hx⟩ := getElem?_lt hlt
        obtain ⟨y0, hy⟩ := getElem?_lt hlt2
        have p0 := hc1 k _ hx 0 _ rfl
        have q0 := hc2 k _ hy 0 _ rfl
        simp only [Nat.add_zero, Nat.mul_one] at p0 q0
        have HX := Lib.hid hx
        have HY := Lib.hid hy
        clear r1 r2 hc1 hc2 hx hy
        by_cases hp : x0 = y0
        · subst hp
          go_wp2
          go_quiet (fail)
          go_wp2
          go_roundw
          case rel => exact ⟨k + 1, n + nq, by omega, by go_num, by first | rfl | rw [World.drewN_drewN], by rw [take_succ_of HX.out, take_succ_of HY.out, HA.out]⟩
          case measure => simp [intOf]; omega
        · have hb : (x0 == y0) = false := by simpa using hp
          have HE := Lib.hid hp
          go_wp2
          go_quiet (fail)
          go_wp2
          go_ret
          refine ⟨ret_bool (Eq.symm (decide_eq_false fun e => HE.out ?_)), n + nq, by first | rfl | rw [World.drewN_drewN]⟩
          have h := HX.out
          rw [e, HY.out] at h
          exact (Option.some.inj h).symm
      · obtain rfl : k = a.length := by omega
        go_wp2
        go_ret
        exact ⟨ret_bool (Eq.symm (decide_eq_true (eq_of_take HN.out HA.out))), n, rfl⟩
  · have hne : ((a.length : Int) == (b.length : Int)) = false := by rw [beq_eq_false_iff_ne]; omega
    have hne2 : ((a.length : Int) != (b.length : Int)) = true := by rw [bne_iff_ne]; omega
    have HN := Lib.hid hn
    clear hn r1 r2
    go_enter Try.func22, Try.ntmps22
    go_wp2
    go_ret
    exact ⟨ret_bool (Eq.symm (decide_eq_false fun e => HN.out (by rw [e]))), Qt.refl w⟩
end Go.Proofs.Ytnlpghjlhnhkeaa
