/- Layer 12: cmp.Compare, tally.entered, the closure of tally.Fifo, slices.IsSortedFunc over stays, tally.Fifo; layer 14: stray. -/
import Derived.Test.YtfbiejkdeadheaaFif1
import Derived.Deep.RegionHeld3
import Derived.StillTailTactics
namespace Go.Proofs.Ytfbiejkdeadheaa
open Go.RowKit Go.Maps

def cmpI (a b : Int) : Int := if a < b then -1 else if b < a then 1 else 0
theorem cmp_any (w : World) (a b : Int) : Calls Try.prog 70 #[.int .i64 a, .int .i64 b] w fun e w' => e = .returned (.int .i64 (cmpI a b)) ∧ w = w' := by
  have e1 : (a == a) = true := by simp
  have e2 : (b == b) = true := by simp
  by_cases h : a < b
  · go_enter Try.func70, Try.ntmps70
    go_wp2
    go_ret
    exact ⟨ret_int (by unfold cmpI; rw [if_pos h]), rfl⟩
  · by_cases h2 : b < a
    · go_enter Try.func70, Try.ntmps70
      go_wp2
      go_ret
      exact ⟨ret_int (by unfold cmpI; rw [if_neg (by omega), if_pos h2]), rfl⟩
    · go_enter Try.func70, Try.ntmps70
      go_wp2
      go_ret
      exact ⟨ret_int (by unfold cmpI; rw [if_neg (by omega), if_neg (by omega)]), rfl⟩

def endI (n : Int) (s : Stay) : Int := if s.enter < 0 then n else s.enter
theorem entered_any (w : World) (s : Stay) (n : Int) : Calls Try.prog 71 #[.agg #[.int .i64 s.thread, .bool s.read, .int .i64 s.ask, .int .i64 s.enter, .int .i64 s.exit, .int .i64 s.rest, .int .i64 s.count], .int .i64 n] w fun e w' => e = .returned (.int .i64 (endI n s)) ∧ Below w.heap.size w w' := by
  by_cases h : s.enter < 0
  · go_enter Try.func71, Try.ntmps71
    go_wp2
    go_ret
    exact ⟨ret_int (by unfold endI; rw [if_pos h]), (Below.refl _ _).alloc (Nat.le_refl _) _⟩
  · go_enter Try.func71, Try.ntmps71
    go_wp2
    go_ret
    exact ⟨ret_int (by unfold endI; rw [if_neg (by omega)]), (Below.refl _ _).alloc (Nat.le_refl _) _⟩

theorem stray_any (w : World) (v : Value) (l : List Stay) (t : Int) (h : RdL w v 7 encS l) :
    Calls Try.prog 29 #[v, .int .i64 t] w fun e w' => e = .returned (.bool (strayB l t)) ∧ w = w' := by
  obtain ⟨A, cap, rfl, l1, l2, hr⟩ := h
  have HR := Lib.hid hr
  clear hr
  go_enter Try.func29, Try.ntmps29
  go_wp2
  go_loop [5] (fun i => ∃ k : Nat, i = .int .i64 k ∧ k ≤ l.length ∧ (l.take k).any (fun x => x.enter == t) = false) (fun i => l.length - (intOf i).toNat)
  case atStart => exact ⟨0, rfl, by omega, rfl⟩
  case round =>
    obtain ⟨k, rfl, hk, hn⟩ := hrel
    by_cases hlt : k < l.length
    · obtain ⟨bl, off, rfl, hbl, hc⟩ := HR.out (by omega)
      obtain ⟨x, hx⟩ := getElem?_lt hlt
      have c3 := hc k x hx 3 _ rfl
      have ha := any_take_succ (p := fun x : Stay => x.enter == t) hx
      rw [hn, Bool.false_or] at ha
      have HX := Lib.hid (And.intro hx ha)
      clear hc hx hn ha
      by_cases h1 : x.enter = t
      · have b1 : (x.enter == t) = true := by rw [beq_iff_eq]; exact h1
        have hs : strayB l t = false := by
          unfold strayB
          have : l.any (fun x => x.enter == t) = true := by
            rw [List.any_eq_true]; exact ⟨x, List.mem_of_getElem? HX.out.1, b1⟩
          rw [this]; rfl
        have HS := Lib.hid hs
        clear h1 hs
        go_wp2
        go_ret
        exact ⟨ret_bool HS.out.symm, rfl⟩
      · have b1 : (x.enter == t) = false := by rw [beq_eq_false_iff_ne]; exact h1
        have hs : (l.take (k + 1)).any (fun x => x.enter == t) = false := by rw [HX.out.2]; exact b1
        have HS := Lib.hid hs
        clear h1 hs
        go_wp2
        go_round
        case rel => exact ⟨k + 1, by go_num, by omega, HS.out⟩
        case measure => simp [intOf]; omega
    · obtain rfl : k = l.length := by omega
      rw [List.take_length] at hn
      have hs : strayB l t = true := by unfold strayB; rw [hn]; rfl
      have HS := Lib.hid hs
      clear hn hs
      go_wp2
      go_ret
      exact ⟨ret_bool HS.out.symm, rfl⟩

set_option maxRecDepth 100000 in
set_option maxHeartbeats 2000000 in
theorem less_any (w : World) (a b : Stay) (ev : Nat) (A : Option Addr) (n c : Nat) (hev : Blk w ev 39 #[.slice A n c]) :
    Calls Try.prog 69 #[.agg #[.int .i64 a.thread, .bool a.read, .int .i64 a.ask, .int .i64 a.enter, .int .i64 a.exit, .int .i64 a.rest, .int .i64 a.count],
      .agg #[.int .i64 b.thread, .bool b.read, .int .i64 b.ask, .int .i64 b.enter, .int .i64 b.exit, .int .i64 b.rest, .int .i64 b.count], .pointer (some ⟨ev, 0, none⟩)] w fun e w' =>
      e = .returned (.int .i64 (cmpI (endI n a) (endI n b))) ∧ Below w.heap.size w w' := by
  have hlt := hev.lt
  obtain ⟨x, hx⟩ : ∃ x, x = endI n a := ⟨_, rfl⟩
  obtain ⟨y, hy⟩ : ∃ y, y = endI n b := ⟨_, rfl⟩
  rw [← hx, ← hy]
  have CA : ∀ W, Calls Try.prog 71 #[.agg #[.int .i64 a.thread, .bool a.read, .int .i64 a.ask, .int .i64 a.enter, .int .i64 a.exit, .int .i64 a.rest, .int .i64 a.count], .int .i64 n] W fun e w' => e = .returned (.int .i64 x) ∧ Below W.heap.size W w' := fun W => by rw [hx]; exact entered_any W a n
  have CB : ∀ W, Calls Try.prog 71 #[.agg #[.int .i64 b.thread, .bool b.read, .int .i64 b.ask, .int .i64 b.enter, .int .i64 b.exit, .int .i64 b.rest, .int .i64 b.count], .int .i64 n] W fun e w' => e = .returned (.int .i64 y) ∧ Below W.heap.size W w' := fun W => by rw [hy]; exact entered_any W b n
  have HA := Lib.hid CA
  have HB := Lib.hid CB
  have HEV := Lib.hid hev
  clear CA CB hx hy hev
  go_enter Try.func69, Try.ntmps69
  go_wp2
  have b0 : Below w.heap.size w ((w.alloc (.cells #[.int .i64 a.thread, .bool a.read, .int .i64 a.ask, .int .i64 a.enter, .int .i64 a.exit, .int .i64 a.rest, .int .i64 a.count] 103)).alloc (.cells #[.int .i64 b.thread, .bool b.read, .int .i64 b.ask, .int .i64 b.enter, .int .i64 b.exit, .int .i64 b.rest, .int .i64 b.count] 103)) :=
    ((Below.refl _ _).alloc (Nat.le_refl _) _).alloc (by simp) _
  have k0 : Blk ((w.alloc (.cells #[.int .i64 a.thread, .bool a.read, .int .i64 a.ask, .int .i64 a.enter, .int .i64 a.exit, .int .i64 a.rest, .int .i64 a.count] 103)).alloc (.cells #[.int .i64 b.thread, .bool b.read, .int .i64 b.ask, .int .i64 b.enter, .int .i64 b.exit, .int .i64 b.rest, .int .i64 b.count] 103)) w.heap.size 103 #[.int .i64 a.thread, .bool a.read, .int .i64 a.ask, .int .i64 a.enter, .int .i64 a.exit, .int .i64 a.rest, .int .i64 a.count] := (Blk.new' _ _ _ rfl).alloc _
  have k1 : Blk ((w.alloc (.cells #[.int .i64 a.thread, .bool a.read, .int .i64 a.ask, .int .i64 a.enter, .int .i64 a.exit, .int .i64 a.rest, .int .i64 a.count] 103)).alloc (.cells #[.int .i64 b.thread, .bool b.read, .int .i64 b.ask, .int .i64 b.enter, .int .i64 b.exit, .int .i64 b.rest, .int .i64 b.count] 103)) (w.heap.size + 1) 103 #[.int .i64 b.thread, .bool b.read, .int .i64 b.ask, .int .i64 b.enter, .int .i64 b.exit, .int .i64 b.rest, .int .i64 b.count] := Blk.new' _ _ _ (by simp)
  generalize ((w.alloc (.cells #[.int .i64 a.thread, .bool a.read, .int .i64 a.ask, .int .i64 a.enter, .int .i64 a.exit, .int .i64 a.rest, .int .i64 a.count] 103)).alloc (.cells #[.int .i64 b.thread, .bool b.read, .int .i64 b.ask, .int .i64 b.enter, .int .i64 b.exit, .int .i64 b.rest, .int .i64 b.count] 103)) = V at b0 k0 k1 ⊢
  have S0 : Hid (∀ W, Below V.heap.size V W → (W.cell? ⟨ev, 0, none⟩ = some (.slice A n c) ∧
      (W.cell? ⟨w.heap.size, 0, none⟩ = some (.int .i64 a.thread) ∧ W.cell? ⟨w.heap.size, 1, none⟩ = some (.bool a.read) ∧ W.cell? ⟨w.heap.size, 2, none⟩ = some (.int .i64 a.ask) ∧ W.cell? ⟨w.heap.size, 3, none⟩ = some (.int .i64 a.enter) ∧ W.cell? ⟨w.heap.size, 4, none⟩ = some (.int .i64 a.exit) ∧ W.cell? ⟨w.heap.size, 5, none⟩ = some (.int .i64 a.rest) ∧ W.cell? ⟨w.heap.size, 6, none⟩ = some (.int .i64 a.count)) ∧
      (W.cell? ⟨w.heap.size + 1, 0, none⟩ = some (.int .i64 b.thread) ∧ W.cell? ⟨w.heap.size + 1, 1, none⟩ = some (.bool b.read) ∧ W.cell? ⟨w.heap.size + 1, 2, none⟩ = some (.int .i64 b.ask) ∧ W.cell? ⟨w.heap.size + 1, 3, none⟩ = some (.int .i64 b.enter) ∧ W.cell? ⟨w.heap.size + 1, 4, none⟩ = some (.int .i64 b.exit) ∧ W.cell? ⟨w.heap.size + 1, 5, none⟩ = some (.int .i64 b.rest) ∧ W.cell? ⟨w.heap.size + 1, 6, none⟩ = some (.int .i64 b.count)))) := Lib.hid fun W hb => by
    have e0 := (HEV.out.below b0 hlt).below hb (Nat.lt_of_lt_of_le hlt b0.size)
    have e1 := k0.below hb k0.lt
    have e2 := k1.below hb k1.lt
    exact ⟨e0.cell 0, ⟨e1.cell 0, e1.cell 1, e1.cell 2, e1.cell 3, e1.cell 4, e1.cell 5, e1.cell 6⟩, e2.cell 0, e2.cell 1, e2.cell 2, e2.cell 3, e2.cell 4, e2.cell 5, e2.cell 6⟩
  have kv : Below V.heap.size V V := Below.refl _ _
  have B0 := Lib.hid b0
  have hV := b0.size
  clear k0 k1 b0 hlt
  go_region_held3 (fun W => (W.cell? ⟨ev, 0, none⟩ = some (.slice A n c) ∧
      (W.cell? ⟨w.heap.size, 0, none⟩ = some (.int .i64 a.thread) ∧ W.cell? ⟨w.heap.size, 1, none⟩ = some (.bool a.read) ∧ W.cell? ⟨w.heap.size, 2, none⟩ = some (.int .i64 a.ask) ∧ W.cell? ⟨w.heap.size, 3, none⟩ = some (.int .i64 a.enter) ∧ W.cell? ⟨w.heap.size, 4, none⟩ = some (.int .i64 a.exit) ∧ W.cell? ⟨w.heap.size, 5, none⟩ = some (.int .i64 a.rest) ∧ W.cell? ⟨w.heap.size, 6, none⟩ = some (.int .i64 a.count)) ∧
      (W.cell? ⟨w.heap.size + 1, 0, none⟩ = some (.int .i64 b.thread) ∧ W.cell? ⟨w.heap.size + 1, 1, none⟩ = some (.bool b.read) ∧ W.cell? ⟨w.heap.size + 1, 2, none⟩ = some (.int .i64 b.ask) ∧ W.cell? ⟨w.heap.size + 1, 3, none⟩ = some (.int .i64 b.enter) ∧ W.cell? ⟨w.heap.size + 1, 4, none⟩ = some (.int .i64 b.exit) ∧ W.cell? ⟨w.heap.size + 1, 5, none⟩ = some (.int .i64 b.rest) ∧ W.cell? ⟨w.heap.size + 1, 6, none⟩ = some (.int .i64 b.count))))
    (first | exact S0.out _ kv | exact S0.out _ kv.drew | exact S0.out _ k2 | exact S0.out _ k3)
    (first
      | (go_at_call_of 71 (Value.int .i64 a.thread); go_loud (refine (HA.out _).mono ?_); rintro en w2 ⟨rfl, b2⟩; have k2 : Below V.heap.size V w2 := by exact ⟨b2.os, b2.tape, b2.output, b2.size, b2.block⟩)
      | (go_at_call_of 71 (Value.int .i64 b.thread); go_loud (refine (HB.out _).mono ?_); rintro en w3 ⟨rfl, b3⟩; have k3 : Below V.heap.size V w3 := k2.trans (b3.mono k2.size))
      | (go_at_call 70; go_loud (refine (cmp_any _ _ _).mono ?_); rintro en w4 ⟨rfl, rfl⟩))
  all_goals
    have HF := Lib.hid (B0.out.trans (k3.mono hV))
    clear k3 k2 b2 b3 kv
    go_wp2
    go_ret
    exact ⟨rfl, HF.out⟩

theorem endI_eq (l : List Ev) (s : Stay) : endI l.length s = endS l s := rfl
theorem sortedFrom_succ (l : List Ev) (s : List Stay) (k : Nat) (a b : Stay) (ha : s[k]? = some a) (hb : s[k + 1]? = some b) : sortedFrom l s (k + 1) = (decide (endS l a ≤ endS l b) && sortedFrom l s k) := by
  show (match s[k]?, s[k + 1]? with | some a, some b => decide (endS l a ≤ endS l b) && sortedFrom l s k | _, _ => sortedFrom l s k) = _
  rw [ha, hb]

set_option maxRecDepth 100000 in
set_option maxHeartbeats 2000000 in
theorem isSorted_any (w : World) (v : Value) (l : List Ev) (s : List Stay) (ev : Nat) (A : Option Addr) (c : Nat) (hs : RdL w v 7 encS s) (hev : Blk w ev 39 #[.slice A l.length c]) (hlen : s.length ≤ 60000) :
    Calls Try.prog 68 #[v, .func (.func 69) #[] #[.pointer (some ⟨ev, 0, none⟩)]] w fun e w' => e = .returned (.bool (fifoB l s)) ∧ Below w.heap.size w w' := by
  obtain ⟨A1, c1, rfl, m1, m2, hr⟩ := hs
  have hevl := hev.lt
  have HEV := Lib.hid hev
  by_cases h0 : s.length = 0
  · have hf : fifoB l s = true := by unfold fifoB; rw [h0]; rfl
    have h00 : s.length ≤ 0 := by omega
    have HF := Lib.hid hf
    clear hr hev hf h0
    go_enter Try.func68, Try.ntmps68
    go_wp2
    refine wp_loop_rounds 1 ?_
    rw [rounds_succ]
    go_wp2
    go_ret
    exact ⟨ret_bool HF.out.symm, Below.refl _ _⟩
  · have hpos : 0 < s.length := by omega
    have HR := Lib.hid (hr hpos)
    clear hr h0 hev
    go_enter Try.func68, Try.ntmps68
    go_wp2
    go_loopw [5] (fun i wr => ∃ k : Nat, i = .int .i64 k ∧ k < s.length ∧ fifoB l s = sortedFrom l s k ∧ Below w.heap.size w wr) (fun i _ => (intOf i).toNat)
    case atStart => exact ⟨s.length - 1, by rw [show ((s.length - 1 : Nat) : Int) = (s.length : Int) - 1 from by omega], by omega, rfl, Below.refl _ _⟩
    case round =>
      obtain ⟨k, rfl, hk, hf, hbel⟩ := hrel
      have hle := hbel.size
      by_cases hk0 : 0 < k
      · obtain ⟨j, rfl⟩ : ∃ j, k = j + 1 := ⟨k - 1, by omega⟩
        obtain ⟨bl, off, rfl, hbl, hc⟩ := HR.out
        obtain ⟨a, ha⟩ := getElem?_lt (show j < s.length by omega)
        obtain ⟨b, hb⟩ := getElem?_lt hk
        have a0 := (hbel.cell (p := ⟨bl, off + j * 7 + 0, none⟩) hbl).trans (hc j a ha 0 _ rfl)
        have a1 := (hbel.cell (p := ⟨bl, off + j * 7 + 1, none⟩) hbl).trans (hc j a ha 1 _ rfl)
        have a2 := (hbel.cell (p := ⟨bl, off + j * 7 + 2, none⟩) hbl).trans (hc j a ha 2 _ rfl)
        have a3 := (hbel.cell (p := ⟨bl, off + j * 7 + 3, none⟩) hbl).trans (hc j a ha 3 _ rfl)
        have a4 := (hbel.cell (p := ⟨bl, off + j * 7 + 4, none⟩) hbl).trans (hc j a ha 4 _ rfl)
        have a5 := (hbel.cell (p := ⟨bl, off + j * 7 + 5, none⟩) hbl).trans (hc j a ha 5 _ rfl)
        have a6 := (hbel.cell (p := ⟨bl, off + j * 7 + 6, none⟩) hbl).trans (hc j a ha 6 _ rfl)
        have b0 := (hbel.cell (p := ⟨bl, off + (j + 1) * 7 + 0, none⟩) hbl).trans (hc (j + 1) b hb 0 _ rfl)
        have b1 := (hbel.cell (p := ⟨bl, off + (j + 1) * 7 + 1, none⟩) hbl).trans (hc (j + 1) b hb 1 _ rfl)
        have b2 := (hbel.cell (p := ⟨bl, off + (j + 1) * 7 + 2, none⟩) hbl).trans (hc (j + 1) b hb 2 _ rfl)
        have b3 := (hbel.cell (p := ⟨bl, off + (j + 1) * 7 + 3, none⟩) hbl).trans (hc (j + 1) b hb 3 _ rfl)
        have b4 := (hbel.cell (p := ⟨bl, off + (j + 1) * 7 + 4, none⟩) hbl).trans (hc (j + 1) b hb 4 _ rfl)
        have b5 := (hbel.cell (p := ⟨bl, off + (j + 1) * 7 + 5, none⟩) hbl).trans (hc (j + 1) b hb 5 _ rfl)
        have b6 := (hbel.cell (p := ⟨bl, off + (j + 1) * 7 + 6, none⟩) hbl).trans (hc (j + 1) b hb 6 _ rfl)
        simp only [Nat.add_zero] at a0 b0
        rw [sortedFrom_succ l s j a b ha hb] at hf
        obtain ⟨q, hq⟩ : ∃ q, q = cmpI (endI l.length b) (endI l.length a) := ⟨_, rfl⟩
        have HQ := Lib.hid hq
        have HFF := Lib.hid hf
        have HBE := Lib.hid hbel
        have LC : ∀ W, Below wr.heap.size wr W → Calls Try.prog 69 #[.agg #[.int .i64 b.thread, .bool b.read, .int .i64 b.ask, .int .i64 b.enter, .int .i64 b.exit, .int .i64 b.rest, .int .i64 b.count],
            .agg #[.int .i64 a.thread, .bool a.read, .int .i64 a.ask, .int .i64 a.enter, .int .i64 a.exit, .int .i64 a.rest, .int .i64 a.count], .pointer (some ⟨ev, 0, none⟩)] W fun e w' => e = .returned (.int .i64 q) ∧ Below W.heap.size W w' := fun W hW => by
          rw [HQ.out]
          exact less_any W b a ev A l.length c ((HEV.out.below HBE.out hevl).below hW (Nat.lt_of_lt_of_le hevl hle))
        have HLC := Lib.hid LC
        clear hc ha hb hq hf hbel LC
        have kj : (0 : Int) < (j : Int) + 1 := by omega
        rw [show ((j + 1 : Nat) : Int) = (j : Int) + 1 from by omega]
        have jw : IntKind.i64.wrap (j : Int) = (j : Int) := IntWalk.i64_in _ (by omega)
        have jt : ((j : Int) + 1).toNat = j + 1 := by omega
        have jl : (j : Int) + 1 < (s.length : Int) := by omega
        have jl0 : (j : Int) < (s.length : Int) := by omega
        have jp : (0 : Int) ≤ (j : Int) + 1 := by omega
        go_wp2
        refine wp_region_still_tail 10 (by kernel_rfl) (by kernel_rfl) ?_
        simp only [List.take_succ_cons, List.take_zero, List.drop_succ_cons, List.drop_zero]
        change wpStill _ _ (World.drew _) _ _ _
        repeat still_step
        refine wpStill_nil ?_
        change wpList _ _ _ _ _ (World.drew wr)
        clear jw jt
        by_cases hab : endS l a ≤ endS l b
        · have hq0 : ¬ q < 0 := by rw [HQ.out, endI_eq, endI_eq]; unfold cmpI; split <;> (try split) <;> omega
          have hq1 : 0 ≤ q := by omega
          have hf2 : fifoB l s = sortedFrom l s j := by rw [HFF.out, decide_eq_true hab, Bool.true_and]
          have HF2 := Lib.hid hf2
          clear hab hf2 hq0
          go_wp2_with (go_at_call 69; go_loud (refine (HLC.out _ (by exact (Below.refl _ wr).drew)).mono ?_); rintro en w2 ⟨rfl, bb2⟩)
          have HB2 : Hid (Below w.heap.size w w2) := Lib.hid (HBE.out.drew.trans (bb2.mono hle))
          clear bb2
          go_roundw
          case rel => exact ⟨j, by first | rfl | go_num, by omega, HF2.out, HB2.out⟩
          case measure => first | (simp [intOf]; done) | (simp [intOf]; omega)
        · have hq0 : q < 0 := by rw [HQ.out, endI_eq, endI_eq]; unfold cmpI; rw [if_pos (by omega)]; decide
          have hf2 : fifoB l s = false := by rw [HFF.out, decide_eq_false hab, Bool.false_and]
          have HF2 := Lib.hid hf2
          clear hab hf2
          go_wp2_with (go_at_call 69; go_loud (refine (HLC.out _ (by exact (Below.refl _ wr).drew)).mono ?_); rintro en w2 ⟨rfl, bb2⟩)
          have HB2 : Hid (Below w.heap.size w w2) := Lib.hid (HBE.out.drew.trans (bb2.mono hle))
          clear bb2
          go_ret
          exact ⟨ret_bool HF2.out.symm, HB2.out⟩
      · obtain rfl : k = 0 := by omega
        have HF2 := Lib.hid (And.intro hf hbel)
        clear hf hbel
        go_wp2
        go_ret
        exact ⟨ret_bool HF2.out.1.symm, HF2.out.2⟩

theorem fifo_any (w : World) (v : Value) (l : List Ev) (h : RdL w v 4 encE l) (hwf : ∀ e ∈ l, wfE e) (hlen : l.length ≤ 60000) :
    Calls Try.prog 27 #[v] w fun e w' => e = .returned (.bool (fifoB l (tallyL l))) ∧ Below w.heap.size w w' := by
  obtain ⟨A, cap, rfl, l1, l2, hr⟩ := h
  have HR : Hid (RdL w (.slice A l.length cap) 4 encE l) := Lib.hid ⟨A, cap, rfl, l1, l2, hr⟩
  have HW := Lib.hid hwf
  have hmf : ∀ (fn : Fn) (first cap : Array Value) (w : World), (Instr.makeFunc fn first cap).run Try.prog w = .ok (.func fn first cap) w := fun _ _ _ _ => rfl
  clear hr hwf
  go_enter Try.func27, Try.ntmps27
  go_wp2_with fail
  refine (tallyOf_any _ _ l (HR.out.alloc _) HW.out hlen).mono ?_
  rintro en w1 ⟨v1, rfl, hown, hb⟩
  have hbl : Blk w1 w.heap.size 39 #[.slice A l.length cap] := (Blk.new' w _ _ rfl).below hb (by simp)
  have hbw : Below w.heap.size w w1 := ((Below.refl _ _).alloc (Nat.le_refl _) _).trans (hb.mono (by simp))
  have htl := tallyL_len l
  obtain ⟨A1, c1, rfl⟩ := own_form hown
  have HS := Lib.hid (And.intro (RdL.of_own encS_len rfl (by omega) hown) (And.intro hbl hbw))
  clear hown hb hbl hbw
  go_wp2_with fail
  refine (isSorted_any _ _ l (tallyL l) w.heap.size A cap HS.out.1 HS.out.2.1 (by omega)).mono ?_
  rintro en w2 ⟨rfl, hb2⟩
  have HB := Lib.hid (HS.out.2.2.trans (hb2.mono HS.out.2.2.size))
  clear hb2
  go_wp2
  go_ret
  exact ⟨rfl, HB.out⟩
end Go.Proofs.Ytfbiejkdeadheaa
