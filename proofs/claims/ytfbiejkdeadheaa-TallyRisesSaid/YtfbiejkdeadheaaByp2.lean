/- Layers 13, 14: tenure.Node, the document's Node; bypass.From and the document's. -/
import Derived.Test.YtfbiejkdeadheaaRows
import Derived.Test.YtfbiejkdeadheaaByp1
namespace Go.Proofs.Ytfbiejkdeadheaa
open Go.RowKit

theorem node_any (w : World) (v : Value) (ns : List Int) (t : Int) (h : RdL w v 1 encI ns) :
    Calls Try.prog 65 #[v, .int .i64 t] w fun e w' => e = .returned (.int .i64 (nodeOf ns t)) ∧ w = w' := by
  obtain ⟨A, cap, rfl, l1, l2, hr⟩ := h
  by_cases h0 : t < 0
  · go_enter Try.func65, Try.ntmps65
    go_wp2
    go_ret
    exact ⟨ret_int (by unfold nodeOf; rw [if_pos (by omega)]), rfl⟩
  · by_cases h1 : (ns.length : Int) ≤ t
    · go_enter Try.func65, Try.ntmps65
      go_wp2
      go_ret
      exact ⟨ret_int (by unfold nodeOf; rw [if_pos (by omega)]), rfl⟩
    · have hp : nodeOf ns t = ns.getD t.toNat 0 := by unfold nodeOf; rw [if_neg (by omega)]
      obtain ⟨b, off, rfl, _, hc⟩ := hr (by omega)
      obtain ⟨x, hx⟩ := getElem?_lt (show t.toNat < ns.length by omega)
      have c0 := hc t.toNat x hx 0 _ rfl
      simp only [Nat.mul_one, Nat.add_zero] at c0
      have hx2 : nodeOf ns t = x := by rw [hp, List.getD_eq_getElem?_getD, hx]; rfl
      have HX := Lib.hid hx2
      clear hr hc hx hp hx2
      go_enter Try.func65, Try.ntmps65
      go_wp2
      go_ret
      exact ⟨ret_int HX.out.symm, rfl⟩

set_option maxHeartbeats 400000 in
theorem rnode_any (w : World) (v : Value) (ns : List Int) (t : Int) (h : RdL w v 1 encI ns) :
    Calls Try.prog 67 #[v, .int .i64 t] w fun e w' => e = .returned (.int .i64 (nodeOf ns t)) ∧ w = w' := by
  obtain ⟨A, cap, rfl, l1, l2, hr⟩ := h
  go_enter Try.func67, Try.ntmps67
  go_wp2
  go_loop [5] (fun i => ∃ k : Nat, k ≤ ns.length ∧ i = .int .i64 k ∧ (t < 0 ∨ (k : Int) ≤ t)) (fun i => ns.length - (intOf i).toNat)
  case atStart => exact ⟨0, by omega, rfl, by omega⟩
  case round =>
    obtain ⟨k, hk, rfl, ht⟩ := hrel
    by_cases hlt : k < ns.length
    · by_cases hkt : (k : Int) = t
      · have hb : ((k : Int) == t) = true := by rw [beq_iff_eq]; exact hkt
        obtain ⟨b, off, rfl, _, hc⟩ := hr (by omega)
        obtain ⟨x, hx⟩ := getElem?_lt hlt
        have c0 := hc k x hx 0 _ rfl
        simp only [Nat.mul_one, Nat.add_zero] at c0
        have hx2 : nodeOf ns t = x := by
          unfold nodeOf; rw [if_neg (by omega), ← hkt, Int.toNat_natCast, List.getD_eq_getElem?_getD, hx]; rfl
        have HX := Lib.hid hx2
        clear hr hc hx hx2 hkt
        go_wp2
        go_ret
        exact ⟨ret_int HX.out.symm, rfl⟩
      · have hb : ((k : Int) == t) = false := by rw [beq_eq_false_iff_ne]; exact hkt
        have HT : Hid (t < 0 ∨ ((k + 1 : Nat) : Int) ≤ t) := Lib.hid (by omega)
        clear hkt hr
        go_wp2
        go_round
        case rel => exact ⟨k + 1, by omega, by go_num, HT.out⟩
        case measure => simp [intOf]; omega
    · obtain rfl : k = ns.length := by omega
      have hx2 : nodeOf ns t = -1 := by unfold nodeOf; rw [if_pos (by omega)]
      have HX := Lib.hid hx2
      clear hr hx2 ht
      go_wp2
      go_ret
      exact ⟨ret_int HX.out.symm, rfl⟩

def cntP (ns : List Int) (x own : Int) (p : Int × Int) : Int × Int := if nodeOf ns x = own then (p.1 + 1, p.2) else (p.1, p.2 + 1)
/-- the closure: one more, of the own node or of another -/
theorem count_any (w : World) (vn : Value) (ns : List Int) (x own : Int) (B0 B2 B3 : Nat) (p : Int × Int) (hn : RdL w vn 1 encI ns) (h0 : Blk w B0 26 #[vn]) (h3 : Blk w B3 3 #[.int .i64 own])
    (h2 : Blk w B2 46 #[.int .i64 p.1, .int .i64 p.2]) (hp : 0 ≤ p.1 ∧ 0 ≤ p.2 ∧ p.1 ≤ 1000000 ∧ p.2 ≤ 1000000) :
    Calls Try.prog 66 #[.int .i64 x, .pointer (some ⟨B0, 0, none⟩), .pointer (some ⟨B3, 0, none⟩), .pointer (some ⟨B2, 0, none⟩)] w fun e w' => e = .returned (.tuple #[]) ∧
      Blk w' B2 46 #[.int .i64 (cntP ns x own p).1, .int .i64 (cntP ns x own p).2] ∧ w.grownBy w' (some B2) := by
  obtain ⟨A, cap, rfl, l1, l2, hr⟩ := hn
  have HN : Hid (RdL w (.slice A ns.length cap) 1 encI ns) := Lib.hid ⟨A, cap, rfl, l1, l2, hr⟩
  have c0 : w.cell? ⟨B0, 0, none⟩ = _ := h0.cell 0
  have c3 : w.cell? ⟨B3, 0, none⟩ = _ := h3.cell 0
  have c2 : w.cell? ⟨B2, 0, none⟩ = _ := h2.cell 0
  have c2' : w.cell? ⟨B2, 1, none⟩ = _ := h2.cell 1
  have f2 := h2.free 0
  have f2' := h2.free 1
  simp only [List.getElem?_toArray, List.getElem?_cons_zero, List.getElem?_cons_succ] at c0 c3 c2 c2'
  obtain ⟨a1, a2, a3, a4⟩ := hp
  have H2 := Lib.hid h2
  obtain ⟨y, hy⟩ : ∃ y, y = nodeOf ns x := ⟨_, rfl⟩
  have HY := Lib.hid hy
  clear hr h0 h3 h2 l1 l2
  by_cases hyo : y = own
  · have hb : (y == own) = true := by rw [beq_iff_eq]; exact hyo
    have hE : cntP ns x own p = (p.1 + 1, p.2) := by unfold cntP; rw [if_pos (by rw [← HY.out, hyo])]
    have HE := Lib.hid hE
    clear hE
    have NC : ∀ n, Calls Try.prog 65 #[.slice A ns.length cap, .int .i64 x] (w.drewN n) fun e w' => e = .returned (.int .i64 y) ∧ w.drewN n = w' := fun n => by rw [HY.out]; exact node_any _ _ ns x (HN.out.drewN n)
    have HC := Lib.hid NC
    clear NC hyo hy
    go_enter Try.func66, Try.ntmps66
    go_wp2
    go_quiet ((go_at_call 65; exact quiet_left (HC.out _)))
    go_wp2
    go_end0
    refine ⟨rfl, ?_, grown_set (grown_drewN (grown_refl _ _) _) _ _⟩
    rw [HE.out]
    exact (H2.out.drewN _).set_ 0 _
  · have hb : (y == own) = false := by rw [beq_eq_false_iff_ne]; exact hyo
    have hE : cntP ns x own p = (p.1, p.2 + 1) := by unfold cntP; rw [if_neg (by rw [← HY.out]; exact hyo)]
    have HE := Lib.hid hE
    clear hE
    have NC : ∀ n, Calls Try.prog 65 #[.slice A ns.length cap, .int .i64 x] (w.drewN n) fun e w' => e = .returned (.int .i64 y) ∧ w.drewN n = w' := fun n => by rw [HY.out]; exact node_any _ _ ns x (HN.out.drewN n)
    have HC := Lib.hid NC
    clear NC hyo hy
    go_enter Try.func66, Try.ntmps66
    go_wp2
    go_quiet ((go_at_call 65; exact quiet_left (HC.out _)))
    go_wp2
    go_end0
    refine ⟨rfl, ?_, grown_set (grown_drewN (grown_refl _ _) _) _ _⟩
    rw [HE.out]
    exact (H2.out.drewN _).set_ 1 _
end Go.Proofs.Ytfbiejkdeadheaa
