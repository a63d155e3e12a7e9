/- Layer 12: tally.Longest. -/
import Derived.Test.YtfbiejkdeadheaaTal6
namespace Go.Proofs.Ytfbiejkdeadheaa
open Go.RowKit Go.Maps

def longTo (l : List Ev) (s : List Stay) : Nat → Int
  | 0 => 0
  | k + 1 => match s[k]? with
    | some x => max (longTo l s k) (endS l x - x.ask)
    | none => longTo l s k
theorem longTo_succ (l : List Ev) (s : List Stay) (k : Nat) (x : Stay) (h : s[k]? = some x) : longTo l s (k + 1) = max (longTo l s k) (endS l x - x.ask) := by
  show (match s[k]? with | some x => max (longTo l s k) (endS l x - x.ask) | none => longTo l s k) = _
  rw [h]
theorem stay_span (l : List Ev) (x : Stay) (h : Rise l x) : 0 ≤ endS l x ∧ endS l x ≤ l.length ∧ 0 ≤ x.ask ∧ x.ask < l.length := by
  have := h.e1
  have := h.a0
  have := h.a1
  unfold endS
  split <;> omega
theorem longTo_le (l : List Ev) (s : List Stay) (hs : ∀ x ∈ s, Rise l x) : ∀ k, 0 ≤ longTo l s k ∧ longTo l s k ≤ l.length
  | 0 => by simp [longTo]
  | k + 1 => by
    have ih := longTo_le l s hs k
    cases hx : s[k]? with
    | none =>
      have : longTo l s (k + 1) = longTo l s k := by
        show (match s[k]? with | some x => max (longTo l s k) (endS l x - x.ask) | none => longTo l s k) = _
        rw [hx]
      rw [this]; exact ih
    | some x =>
      rw [longTo_succ l s k x hx]
      have := stay_span l x (hs x (List.mem_of_getElem? hx))
      omega
def longL (l : List Ev) (s : List Stay) : Int := longTo l s s.length

theorem entered_call (w : World) (s : Stay) (n q : Int) (hq : q = endI n s) : Calls Try.prog 71 #[.agg #[.int .i64 s.thread, .bool s.read, .int .i64 s.ask, .int .i64 s.enter, .int .i64 s.exit, .int .i64 s.rest, .int .i64 s.count], .int .i64 n] w fun e w' => e = .returned (.int .i64 q) ∧ Below w.heap.size w w' := by
  rw [hq]; exact entered_any w s n

set_option maxRecDepth 100000 in
set_option maxHeartbeats 4000000 in
theorem longest_any (w : World) (v : Value) (l : List Ev) (h : RdL w v 4 encE l) (hwf : ∀ e ∈ l, wfE e) (hlen : l.length ≤ 60000) :
    Calls Try.prog 57 #[v] w fun e w' => e = .returned (.int .i64 (longL l (tallyL l))) ∧ Below w.heap.size w w' := by
  obtain ⟨A, cap, rfl, l1, l2, hr⟩ := h
  have HR : Hid (RdL w (.slice A l.length cap) 4 encE l) := Lib.hid ⟨A, cap, rfl, l1, l2, hr⟩
  have HW := Lib.hid hwf
  clear hr hwf
  go_enter Try.func57, Try.ntmps57
  go_wp2_with fail
  refine (tallyOf_any _ _ l HR.out HW.out hlen).mono ?_
  rintro en w1 ⟨v1, rfl, hown, hb⟩
  have htl := tallyL_len l
  have hri := (tally_rise l).1
  obtain ⟨s, hs⟩ : ∃ s, s = tallyL l := ⟨_, rfl⟩
  rw [← hs] at hown htl hri
  obtain ⟨A1, c1, rfl⟩ := own_form hown
  have HS : Hid (RdL w1 (.slice A1 s.length c1) 7 encS s) := Lib.hid (RdL.of_own encS_len rfl (by omega) hown)
  have HRI := Lib.hid hri
  have HL := Lib.hid hs
  have HB := Lib.hid hb
  clear hown hb hs hri
  go_wp2
  go_loopw [3, 9] (fun m i wr => ∃ k : Nat, i = .int .i64 k ∧ k ≤ s.length ∧ m = .int .i64 (longTo l s k) ∧ Below w1.heap.size w1 wr) (fun _ i _ => s.length - (intOf i).toNat)
  case atStart => exact ⟨0, rfl, by omega, rfl, Below.refl _ _⟩
  case round =>
    obtain ⟨k, rfl, hk, rfl, hbel⟩ := hrel
    have hle := hbel.size
    by_cases hlt : k < s.length
    · obtain ⟨A', c', e', p1, p2, p3⟩ := HS.out.below hbel (Nat.le_refl _)
      obtain ⟨bl, off, q1, q2, hc⟩ := p3 (by omega)
      injection e' with e' _ e''
      subst e' e'' q1
      obtain ⟨x, hx⟩ := getElem?_lt hlt
      have a0 := hc k x hx 0 _ rfl
      have a1 := hc k x hx 1 _ rfl
      have a2 := hc k x hx 2 _ rfl
      have a3 := hc k x hx 3 _ rfl
      have a4 := hc k x hx 4 _ rfl
      have a5 := hc k x hx 5 _ rfl
      have a6 := hc k x hx 6 _ rfl
      simp only [Nat.add_zero] at a0
      have hsp := stay_span l x (HRI.out x (List.mem_of_getElem? hx))
      have hlo := longTo_le l s HRI.out k
      have hsu := longTo_succ l s k x hx
      obtain ⟨m, hm⟩ : ∃ m, m = longTo l s k := ⟨_, rfl⟩
      obtain ⟨q, hq⟩ : ∃ q, q = endS l x := ⟨_, rfl⟩
      rw [← hm] at hlo hsu ⊢
      rw [← hq] at hsp hsu
      have HQ : Hid (q = endI l.length x) := Lib.hid hq
      have HSU := Lib.hid hsu
      have HBE := Lib.hid hbel
      clear hc hx p3 hm hq hsu hbel
      go_wp2
      have k0 : Blk (wr.alloc (.cells #[.int .i64 x.thread, .bool x.read, .int .i64 x.ask, .int .i64 x.enter, .int .i64 x.exit, .int .i64 x.rest, .int .i64 x.count] 103)) wr.heap.size 103 #[.int .i64 x.thread, .bool x.read, .int .i64 x.ask, .int .i64 x.enter, .int .i64 x.exit, .int .i64 x.rest, .int .i64 x.count] := Blk.new _ _ _
      have b0 : Below w1.heap.size w1 (wr.alloc (.cells #[.int .i64 x.thread, .bool x.read, .int .i64 x.ask, .int .i64 x.enter, .int .i64 x.exit, .int .i64 x.rest, .int .i64 x.count] 103)) := HBE.out.alloc hle _
      generalize (wr.alloc (.cells #[.int .i64 x.thread, .bool x.read, .int .i64 x.ask, .int .i64 x.enter, .int .i64 x.exit, .int .i64 x.rest, .int .i64 x.count] 103)) = V at k0 b0 ⊢
      have S0 : Hid (∀ W, Below V.heap.size V W → (W.cell? ⟨wr.heap.size, 0, none⟩ = some (.int .i64 x.thread) ∧ W.cell? ⟨wr.heap.size, 1, none⟩ = some (.bool x.read) ∧ W.cell? ⟨wr.heap.size, 2, none⟩ = some (.int .i64 x.ask) ∧ W.cell? ⟨wr.heap.size, 3, none⟩ = some (.int .i64 x.enter) ∧ W.cell? ⟨wr.heap.size, 4, none⟩ = some (.int .i64 x.exit) ∧ W.cell? ⟨wr.heap.size, 5, none⟩ = some (.int .i64 x.rest) ∧ W.cell? ⟨wr.heap.size, 6, none⟩ = some (.int .i64 x.count))) := Lib.hid fun W hb => by
        have e1 := k0.below hb k0.lt
        exact ⟨e1.cell 0, e1.cell 1, e1.cell 2, e1.cell 3, e1.cell 4, e1.cell 5, e1.cell 6⟩
      have kv : Below V.heap.size V V := Below.refl _ _
      have B0 := Lib.hid b0
      have hV := b0.size
      have w64 : IntKind.i64.wrap (q - x.ask) = q - x.ask := IntWalk.i64_in _ (by omega)
      clear k0 b0
      go_region_held3 (fun W => W.cell? ⟨wr.heap.size, 0, none⟩ = some (.int .i64 x.thread) ∧ W.cell? ⟨wr.heap.size, 1, none⟩ = some (.bool x.read) ∧ W.cell? ⟨wr.heap.size, 2, none⟩ = some (.int .i64 x.ask) ∧ W.cell? ⟨wr.heap.size, 3, none⟩ = some (.int .i64 x.enter) ∧ W.cell? ⟨wr.heap.size, 4, none⟩ = some (.int .i64 x.exit) ∧ W.cell? ⟨wr.heap.size, 5, none⟩ = some (.int .i64 x.rest) ∧ W.cell? ⟨wr.heap.size, 6, none⟩ = some (.int .i64 x.count))
        (first | exact S0.out _ kv | exact S0.out _ kv.drew | exact S0.out _ k2)
        (first
          | (go_at_call 71; go_loud (refine (entered_call _ x _ q HQ.out).mono ?_); rintro en w2 ⟨rfl, b2⟩; have k2 : Below V.heap.size V w2 := by exact ⟨b2.os, b2.tape, b2.output, b2.size, b2.block⟩))
      all_goals
        have HF := Lib.hid (B0.out.trans (k2.mono hV))
        clear k2 b2 kv
        go_wp2
        go_roundw
        case rel => exact ⟨k + 1, by go_num, by omega, by rw [HSU.out]; congr 1; split <;> omega, HF.out⟩
        case measure => first | (simp [intOf]; done) | (simp [intOf]; omega)
    · obtain rfl : k = s.length := by omega
      have HBE := Lib.hid hbel
      clear hbel
      go_wp2
      go_ret
      rw [← HL.out]
      exact ⟨rfl, HB.out.trans (HBE.out.mono HB.out.size)⟩
end Go.Proofs.Ytfbiejkdeadheaa
