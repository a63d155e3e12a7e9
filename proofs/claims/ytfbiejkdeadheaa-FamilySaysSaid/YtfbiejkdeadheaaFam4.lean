/- Layer 45: the document's script, and when two rows of picks are the same. -/
import Derived.Test.YtfbiejkdeadheaaFam3
namespace Go.Proofs.Ytfbiejkdeadheaa
open Go.RowKit

theorem eqPick (a b c d : Int) (w : World) : (Op.equalIn 10000 108 (.agg #[.int .i64 a, .int .i64 b]) (.agg #[.int .i64 c, .int .i64 d])).run Try.prog w = .ok (a == c && b == d) w := by
  have u3 := Try.underlying3
  have a3 := Try.isAgg3
  have z3 := Try.sizeOf3
  have hS : Try.prog.underlying 108 = some (.struct (Try.prog.fieldsOf 108)) := by kernel_rfl
  have hp : Try.prog.stoodInHeld 108 = false := by kernel_rfl
  rw [show (10000 : Nat) = 9999 + 1 from rfl, run_equalIn_agg w 9999 108 _ _ hS hp]
  simp only [Program.fieldsOf, Try.underlying108]
  go_simp
  by_cases h1 : a = c <;> by_cases h2 : b = d <;> simp [h1, h2]
@[go_sem] theorem guardPick : Try.prog.eqGuardType Try.prog.depth 108 = false := by kernel_rfl
@[go_sem] theorem neqPick (a b c d : Int) (w : World) : (binOp .neq 108 (.agg #[.int .i64 a, .int .i64 b]) (.agg #[.int .i64 c, .int .i64 d])).run Try.prog w = .ok (.bool (!(a == c && b == d))) w := by
  rw [run_neq_struct, eqPick]; rfl
@[go_sem] theorem eqlPick (a b c d : Int) (w : World) : (binOp .eql 108 (.agg #[.int .i64 a, .int .i64 b]) (.agg #[.int .i64 c, .int .i64 d])).run Try.prog w = .ok (.bool (a == c && b == d)) w := by
  rw [run_eql_struct, eqPick]; rfl

theorem eq_of_take {α : Type} {a b : List α} (hn : a.length = b.length) (h : a.take a.length = b.take a.length) : a = b := by
  rw [List.take_length] at h
  rw [h, hn, List.take_length]

set_option maxHeartbeats 400000 in
theorem same_any (w : World) (v1 v2 : Value) (a b : List (Int × Int)) (h1 : RdL w v1 2 encP a) (h2 : RdL w v2 2 encP b) :
    Calls Try.prog 17 #[v1, v2] w fun e w' => e = .returned (.bool (decide (a = b))) ∧ Qt w w' := by
  obtain ⟨A1, c1, rfl, l1, m1, r1⟩ := h1
  obtain ⟨A2, c2, rfl, l2, m2, r2⟩ := h2
  by_cases hn : a.length = b.length
  · have hne : ((a.length : Int) == (b.length : Int)) = true := by rw [beq_iff_eq]; omega
    have hne2 : ((a.length : Int) != (b.length : Int)) = false := by rw [bne_eq_false_iff_eq]; omega
    have HN := Lib.hid hn
    clear hn
    go_enter Try.func17, Try.ntmps17
    go_wp2_with fail
    go_loopw [5] (fun i w' => ∃ k n : Nat, k ≤ a.length ∧ i = .int .i64 k ∧ w' = w.drewN n ∧ a.take k = b.take k) (fun i _ => a.length - (intOf i).toNat)
    case atStart => exact ⟨0, 0, by omega, rfl, rfl, rfl⟩
    case round =>
      obtain ⟨k, n, hk, rfl, rfl, hall⟩ := hrel
      have HA := Lib.hid hall
      clear hall
      by_cases hlt : k < a.length
      · have hlt2 : k < b.length := by have := HN.out; omega
        obtain ⟨b1, o1, rfl, hb1, hc1⟩ := r1 (by omega)
        obtain ⟨b2, o2, rfl, hb2, hc2⟩ := r2 (by omega)
        obtain ⟨⟨x1, x2⟩, hx⟩ := getElem?_lt hlt
        obtain ⟨⟨y1, y2⟩, hy⟩ := getElem?_lt hlt2
        have ha0 := hc1 k _ hx 0 _ rfl
        have ha1 := hc1 k _ hx 1 _ rfl
        have hb0 := hc2 k _ hy 0 _ rfl
        have hb1' := hc2 k _ hy 1 _ rfl
        simp only [Nat.add_zero] at ha0 hb0
        dsimp only at ha0 ha1 hb0 hb1'
        have HX := Lib.hid hx
        have HY := Lib.hid hy
        clear r1 r2 hc1 hc2 hx hy
        by_cases hp : x1 = y1
        · subst hp
          by_cases hq : x2 = y2
          · subst hq
            go_wp2
            go_quiet (fail)
            go_wp2
            go_roundw
            case rel => exact ⟨k + 1, n + nq, by omega, by go_num, by first | rfl | rw [World.drewN_drewN], by rw [take_succ_of HX.out, take_succ_of HY.out, HA.out]⟩
            case measure => simp [intOf]; omega
          · have hq2 : (x2 == y2) = false := by simpa using hq
            go_wp2
            go_quiet (fail)
            go_wp2
            go_ret
            refine ⟨ret_bool (Eq.symm (decide_eq_false fun e => hq ?_)), n + nq, by first | rfl | rw [World.drewN_drewN]⟩
            have := HX.out
            rw [e, HY.out] at this
            simpa using this.symm
        · have hp2 : (x1 == y1) = false := by simpa using hp
          go_wp2
          go_quiet (fail)
          go_wp2
          go_ret
          refine ⟨ret_bool (Eq.symm (decide_eq_false fun e => hp ?_)), n + nq, by first | rfl | rw [World.drewN_drewN]⟩
          have := HX.out
          rw [e, HY.out] at this
          simp at this
          exact this.1.symm
      · obtain rfl : k = a.length := by omega
        go_wp2
        go_ret
        exact ⟨ret_bool (Eq.symm (decide_eq_true (eq_of_take HN.out HA.out))), n, rfl⟩
  · have hne : ((a.length : Int) == (b.length : Int)) = false := by rw [beq_eq_false_iff_ne]; omega
    have hne2 : ((a.length : Int) != (b.length : Int)) = true := by rw [bne_iff_ne]; omega
    have HN := Lib.hid hn
    clear hn r1 r2
    go_enter Try.func17, Try.ntmps17
    go_wp2
    go_ret
    exact ⟨ret_bool (Eq.symm (decide_eq_false fun e => HN.out (by rw [e]))), Qt.refl w⟩
end Go.Proofs.Ytfbiejkdeadheaa
