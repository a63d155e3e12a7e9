/- slices.Index, Contains, IndexFunc (at two closures) and ContainsFunc over ints (written by wip/gen_top2.py). -/
import Derived.Test.YtnlpghjlhnhkeaaRows
import Derived.Test.YtnlpghjlhnhkeaaTop1
import Derived.RegionCalls
namespace Go.Proofs.Ytnlpghjlhnhkeaa
open Go.RowKit

def idxI (l : List Int) (x : Int) : Int := if x ∈ l then ((l.idxOf x : Nat) : Int) else -1
theorem idx_hit {l : List Int} {k : Nat} {x : Int} (h : l[k]? = some x) (hn : x ∉ l.take k) : idxI l x = k := by
  unfold idxI
  have hm : x ∈ l := List.mem_of_getElem? h
  obtain ⟨hk, he⟩ := List.getElem?_eq_some_iff.1 h
  rw [if_pos hm]
  have hl : l = l.take k ++ (x :: l.drop (k + 1)) := by
    conv => lhs; rw [← List.take_append_drop k l, List.drop_eq_getElem_cons hk, he]
  have : l.idxOf x = k := by
    rw [hl, List.idxOf_append]
    rw [if_neg hn, List.idxOf_cons_self]
    simp; omega
  rw [this]
theorem idx_none {l : List Int} {x : Int} (hn : x ∉ l) : idxI l x = -1 := by unfold idxI; rw [if_neg hn]
theorem idx_nonneg (l : List Int) (x : Int) : (0 ≤ idxI l x ↔ x ∈ l) ∧ idxI l x < l.length ∧ -1 ≤ idxI l x := by
  unfold idxI
  split
  · rename_i h
    have := List.idxOf_lt_length_of_mem h
    exact ⟨by simp [h], by omega, by omega⟩
  · rename_i h
    exact ⟨by simp [h], by omega, by omega⟩
def fidx (p : Int → Bool) (l : List Int) : Int := match l.findIdx? p with | some i => (i : Int) | none => -1
theorem fidx_hit {p : Int → Bool} {l : List Int} {k : Nat} {x : Int} (h : l[k]? = some x) (hp : p x = true) (hn : ∀ y ∈ l.take k, p y = false) : fidx p l = k := by
  obtain ⟨hk, he⟩ := List.getElem?_eq_some_iff.1 h
  have : l.findIdx? p = some k := by
    rw [List.findIdx?_eq_some_iff_getElem]
    refine ⟨hk, by rw [he]; exact hp, fun j hj => ?_⟩
    have := hn l[j] (List.mem_take_iff_getElem.2 ⟨j, by omega, rfl⟩)
    simp [this]
  unfold fidx
  rw [this]
theorem fidx_none {p : Int → Bool} {l : List Int} (hn : ∀ y ∈ l, p y = false) : fidx p l = -1 := by
  have : l.findIdx? p = none := by rw [List.findIdx?_eq_none_iff]; exact hn
  unfold fidx
  rw [this]
theorem fidx_nonneg (p : Int → Bool) (l : List Int) : (decide (0 ≤ fidx p l) = l.any p) ∧ fidx p l < l.length ∧ -1 ≤ fidx p l := by
  unfold fidx
  cases h : l.findIdx? p with
  | none =>
    rw [List.findIdx?_eq_none_iff] at h
    refine ⟨?_, by show (-1 : Int) < _; omega, by show (-1 : Int) ≤ -1; omega⟩
    symm
    show _ = decide ((0 : Int) ≤ -1)
    rw [show decide ((0 : Int) ≤ -1) = false from rfl, List.any_eq_false]
    intro x hx hp
    rw [h x hx] at hp; cases hp
  | some i =>
    rw [List.findIdx?_eq_some_iff_getElem] at h
    obtain ⟨hi, hp, _⟩ := h
    refine ⟨?_, by show (i : Int) < _; omega, by show (-1 : Int) ≤ (i : Int); omega⟩
    rw [decide_eq_true (show (0 : Int) ≤ (i : Int) by omega)]
    symm
    rw [List.any_eq_true]
    exact ⟨l[i], List.getElem_mem hi, hp⟩

set_option maxHeartbeats 1000000 in
theorem index_any (w : World) (v : Value) (l : List Int) (x : Int) (h : RdL w v 1 encI l) :
    Calls Try.prog 68 #[v, .int .i64 x] w fun e w' => e = .returned (.int .i64 (idxI l x)) ∧ w = w' := by
  obtain ⟨A, cap, rfl, l1, l2, hr⟩ := h
  have HR := Lib.hid hr
  clear hr
  go_enter Try.func68, Try.ntmps68
  go_wp2
  go_loop [8] (fun i => ∃ k : Nat, i = .int .i64 k ∧ k ≤ l.length ∧ x ∉ l.take k) (fun i => l.length - (intOf i).toNat)
  case atStart => exact ⟨0, rfl, by omega, by simp⟩
  case round =>
    obtain ⟨k, rfl, hk, hn⟩ := hrel
    by_cases hlt : k < l.length
    · obtain ⟨bl, off, rfl, hbl, hc⟩ := HR.out (by omega)
      obtain ⟨y, hy⟩ := getElem?_lt hlt
      have c0 := hc k y hy 0 _ rfl
      simp only [Nat.add_zero, Nat.mul_one] at c0
      have HY := Lib.hid (And.intro hy hn)
      clear hc hy hn
      cases hxy : (x == y)
      · have hne : Hid (x ∉ l.take (k + 1)) := Lib.hid (by
          rw [mem_take HY.out.1]
          rintro (h | h)
          · exact HY.out.2 h
          · rw [h] at hxy; simp at hxy)
        go_wp2
        go_round
        case rel => exact ⟨k + 1, by go_num, by omega, hne.out⟩
        case measure => simp [intOf]; omega
      · have hid : Hid (idxI l x = k) := Lib.hid (idx_hit (by rw [beq_iff_eq.1 hxy]; exact HY.out.1) HY.out.2)
        go_wp2
        go_ret
        exact ⟨ret_int hid.out.symm, rfl⟩
    · obtain rfl : k = l.length := by omega
      rw [List.take_length] at hn
      have hid : Hid (idxI l x = -1) := Lib.hid (idx_none hn)
      clear hn
      go_wp2
      go_ret
      exact ⟨ret_int hid.out.symm, rfl⟩
theorem contains_any (w : World) (v : Value) (l : List Int) (x : Int) (h : RdL w v 1 encI l) :
    Calls Try.prog 44 #[v, .int .i64 x] w fun e w' => e = .returned (.bool (decide (x ∈ l))) ∧ w = w' := by
  have HI := Lib.hid (index_any w v l x h)
  have hb : decide (x ∈ l) = decide (0 ≤ idxI l x) := decide_eq_decide.2 (idx_nonneg l x).1.symm
  have HB := Lib.hid hb
  clear h hb
  go_enter Try.func44, Try.ntmps44
  go_wp2_with (go_at_call 68; refine HI.out.mono ?_; rintro e w' ⟨rfl, rfl⟩)
  go_ret
  exact ⟨ret_bool HB.out.symm, rfl⟩

theorem chkC_any (w : World) (b : Nat) (v : Value) (l : List Int) (x : Int) (hc : w.cell? ⟨b, 0, none⟩ = some v) (h : RdL w v 1 encI l) :
    Calls Try.prog 65 #[.int .i64 x, .pointer (some ⟨b, 0, none⟩)] w fun e w' => e = .returned (.bool (!decide (x ∈ l))) ∧ w = w' := by
  have HI := Lib.hid (contains_any w v l x h)
  clear h
  go_enter Try.func65, Try.ntmps65
  go_wp2_with (go_at_call 44; refine HI.out.mono ?_; rintro e w' ⟨rfl, rfl⟩)
  go_ret
  exact ⟨ret_bool (by simp), rfl⟩
set_option maxHeartbeats 1000000 in
theorem chkF_any (w : World) (b : Nat) (ve v : Value) (en l : List Int) (hcell : w.cell? ⟨b, 0, none⟩ = some ve) (hen : RdL w ve 1 encI en) (h : RdL w v 1 encI l) :
    Calls Try.prog 42 #[v, .func (.func 65) #[] #[.pointer (some ⟨b, 0, none⟩)]] w fun e w' => e = .returned (.int .i64 (fidx (fun x => !decide (x ∈ en)) l)) ∧ w = w' := by
  obtain ⟨A, cap, rfl, l1, l2, hr⟩ := h
  have HR := Lib.hid hr
  have HE := Lib.hid (And.intro hcell hen)
  clear hr hcell hen
  go_enter Try.func42, Try.ntmps42
  go_wp2
  go_loop [8] (fun i => ∃ k : Nat, i = .int .i64 k ∧ k ≤ l.length ∧ ∀ x ∈ l.take k, (!decide (x ∈ en)) = false) (fun i => l.length - (intOf i).toNat)
  case atStart => exact ⟨0, rfl, by omega, by simp⟩
  case round =>
    obtain ⟨k, rfl, hk, hn⟩ := hrel
    by_cases hlt : k < l.length
    · obtain ⟨bl, off, rfl, hbl, hc⟩ := HR.out (by omega)
      obtain ⟨y, hy⟩ := getElem?_lt hlt
      have c0 := hc k y hy 0 _ rfl
      simp only [Nat.add_zero, Nat.mul_one] at c0
      have HY := Lib.hid (And.intro hy hn)
      clear hc hy hn
      have HC := Lib.hid (chkC_any w b ve en y HE.out.1 HE.out.2)
      cases hp : (!decide (y ∈ en))
      · have hne : Hid (∀ x ∈ l.take (k + 1), (!decide (x ∈ en)) = false) := Lib.hid (by
          intro x hx
          rcases (mem_take HY.out.1 x).1 hx with h | h
          · exact HY.out.2 x h
          · rw [h]; exact hp)
        rw [hp] at HC
        clear hp
        go_wp2_with (go_at_call 65; refine HC.out.mono ?_; rintro e w' ⟨rfl, rfl⟩)
        go_round
        case rel => exact ⟨k + 1, by go_num, by omega, hne.out⟩
        case measure => simp [intOf]; omega
      · have hid : Hid (fidx (fun x => !decide (x ∈ en)) l = k) := Lib.hid (fidx_hit HY.out.1 hp HY.out.2)
        rw [hp] at HC
        clear hp
        go_wp2_with (go_at_call 65; refine HC.out.mono ?_; rintro e w' ⟨rfl, rfl⟩)
        go_ret
        exact ⟨ret_int hid.out.symm, rfl⟩
    · obtain rfl : k = l.length := by omega
      rw [List.take_length] at hn
      have hid : Hid (fidx (fun x => !decide (x ∈ en)) l = -1) := Lib.hid (fidx_none hn)
      clear hn
      go_wp2
      go_ret
      exact ⟨ret_int hid.out.symm, rfl⟩

theorem containsFunc_any (w : World) (b : Nat) (ve v : Value) (en l : List Int) (hcell : w.cell? ⟨b, 0, none⟩ = some ve) (hen : RdL w ve 1 encI en) (h : RdL w v 1 encI l) :
    Calls Try.prog 64 #[v, .func (.func 65) #[] #[.pointer (some ⟨b, 0, none⟩)]] w fun e w' => e = .returned (.bool (l.any fun x => !decide (x ∈ en))) ∧ w = w' := by
  have HI := Lib.hid (chkF_any w b ve v en l hcell hen h)
  have HB := Lib.hid (fidx_nonneg (fun x => !decide (x ∈ en)) l).1
  clear h hcell hen
  go_enter Try.func64, Try.ntmps64
  go_wp2_with (go_at_call 42; refine HI.out.mono ?_; rintro e w' ⟨rfl, rfl⟩)
  go_ret
  exact ⟨ret_bool HB.out, rfl⟩
end Go.Proofs.Ytnlpghjlhnhkeaa
