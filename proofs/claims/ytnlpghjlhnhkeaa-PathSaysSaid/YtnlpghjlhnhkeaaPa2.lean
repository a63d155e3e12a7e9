/- slices.IndexFunc at path's closure (written by wip/gen_top2.py). -/
import Derived.Test.YtnlpghjlhnhkeaaTop2
namespace Go.Proofs.Ytnlpghjlhnhkeaa
open Go.RowKit

theorem farC_any (w : World) (b : Nat) (v : Value) (l : List Int) (x : Int) (hc : w.cell? ⟨b, 0, none⟩ = some v) (h : RdL w v 1 encI l) :
    Calls Try.prog 43 #[.int .i64 x, .pointer (some ⟨b, 0, none⟩)] w fun e w' => e = .returned (.bool (decide (x ∈ l))) ∧ w = w' := by
  have HI := Lib.hid (contains_any w v l x h)
  clear h
  go_enter Try.func43, Try.ntmps43
  go_wp2_with (go_at_call 44; refine HI.out.mono ?_; rintro e w' ⟨rfl, rfl⟩)
  go_ret
  exact ⟨ret_bool (by simp), rfl⟩
set_option maxHeartbeats 1000000 in
theorem farF_any (w : World) (b : Nat) (ve v : Value) (en l : List Int) (hcell : w.cell? ⟨b, 0, none⟩ = some ve) (hen : RdL w ve 1 encI en) (h : RdL w v 1 encI l) :
    Calls Try.prog 42 #[v, .func (.func 43) #[] #[.pointer (some ⟨b, 0, none⟩)]] w fun e w' => e = .returned (.int .i64 (fidx (fun x => decide (x ∈ en)) l)) ∧ w = w' := by
  obtain ⟨A, cap, rfl, l1, l2, hr⟩ := h
  have HR := Lib.hid hr
  have HE := Lib.hid (And.intro hcell hen)
  clear hr hcell hen
  go_enter Try.func42, Try.ntmps42
  go_wp2
  go_loop [8] (fun i => ∃ k : Nat, i = .int .i64 k ∧ k ≤ l.length ∧ ∀ x ∈ l.take k, (decide (x ∈ en)) = false) (fun i => l.length - (intOf i).toNat)
  case atStart => exact ⟨0, rfl, by omega, by simp⟩
  case round =>
    obtain ⟨k, rfl, hk, hn⟩ := hrel
    by_cases hlt : k < l.length
    · obtain ⟨bl, off, rfl, hbl, hc⟩ := HR.out (by omega)
      obtain ⟨y, hy⟩ := getElem?_lt hlt
      have c0 := hc k y hy 0 _ rfl
      simp only [Nat.add_zero, Nat.mul_one] at c0
      have HY := Lib.hid (And.intro hy hn)
      clear hc hy hn
      have HC := Lib.hid (farC_any w b ve en y HE.out.1 HE.out.2)
      cases hp : (decide (y ∈ en))
      · have hne : Hid (∀ x ∈ l.take (k + 1), (decide (x ∈ en)) = false) := Lib.hid (by
          intro x hx
          rcases (mem_take HY.out.1 x).1 hx with h | h
          · exact HY.out.2 x h
          · rw [h]; exact hp)
        rw [hp] at HC
        clear hp
        go_wp2_with (go_at_call 43; refine HC.out.mono ?_; rintro e w' ⟨rfl, rfl⟩)
        go_round
        case rel => exact ⟨k + 1, by go_num, by omega, hne.out⟩
        case measure => simp [intOf]; omega
      · have hid : Hid (fidx (fun x => decide (x ∈ en)) l = k) := Lib.hid (fidx_hit HY.out.1 hp HY.out.2)
        rw [hp] at HC
        clear hp
        go_wp2_with (go_at_call 43; refine HC.out.mono ?_; rintro e w' ⟨rfl, rfl⟩)
        go_ret
        exact ⟨ret_int hid.out.symm, rfl⟩
    · obtain rfl : k = l.length := by omega
      rw [List.take_length] at hn
      have hid : Hid (fidx (fun x => decide (x ∈ en)) l = -1) := Lib.hid (fidx_none hn)
      clear hn
      go_wp2
      go_ret
      exact ⟨ret_int hid.out.symm, rfl⟩
end Go.Proofs.Ytnlpghjlhnhkeaa
