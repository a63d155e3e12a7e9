/- Layer 12: slices.IndexFunc and slices.DeleteFunc over stays, at the closure of tally.Entries. -/
import Derived.Test.YtfbiejkdeadheaaFif2
import Derived.Lib.SliceRun
namespace Go.Proofs.Ytfbiejkdeadheaa
open Go.RowKit Go.Maps

def inS (s : Stay) : Bool := decide (0 ≤ s.enter)
def keepL (l : List Stay) : List Stay := l.filter inS
theorem keepL_snoc (l : List Stay) (x : Stay) : keepL (l ++ [x]) = if inS x then keepL l ++ [x] else keepL l := by
  unfold keepL
  rw [List.filter_append]
  by_cases h : inS x = true
  · simp [h]
  · simp [h]
theorem keepL_all (l : List Stay) (h : ∀ s ∈ l, inS s = true) : keepL l = l := List.filter_eq_self.2 h
theorem keepL_len (l : List Stay) : (keepL l).length ≤ l.length := List.length_filter_le _ _

/-- the row at the j-th round of DeleteFunc -/
structure Del (l dk : List Stay) (i j : Nat) : Prop where
  size : dk.length = l.length
  lt : i < j
  le : j ≤ l.length
  low : dk.take i = keepL (l.take j)
  len : (keepL (l.take j)).length = i
  high : dk.drop j = l.drop j

theorem Del.start {l : List Stay} {k : Nat} {x : Stay} (hx : l[k]? = some x) (hd : inS x = false) (ha : ∀ s ∈ l.take k, inS s = true) : Del l l k (k + 1) := by
  have hk : k < l.length := (List.getElem?_eq_some_iff.1 hx).1
  have e : keepL (l.take (k + 1)) = l.take k := by rw [take_succ_of hx, keepL_snoc, hd, keepL_all _ ha]; rfl
  exact ⟨rfl, by omega, by omega, e.symm, by rw [e, List.length_take]; omega, rfl⟩
theorem Del.skip {l dk : List Stay} {i j : Nat} {x : Stay} (h : Del l dk i j) (hx : l[j]? = some x) (hd : inS x = false) : Del l dk i (j + 1) := by
  have hk : j < l.length := (List.getElem?_eq_some_iff.1 hx).1
  have e : keepL (l.take (j + 1)) = keepL (l.take j) := by rw [take_succ_of hx, keepL_snoc, hd]; rfl
  exact ⟨h.size, by have := h.lt; omega, by omega, by rw [e]; exact h.low, by rw [e]; exact h.len, by
    have := h.high
    rw [← List.drop_drop, ← List.drop_drop, this]⟩
theorem Del.keep {l dk : List Stay} {i j : Nat} {x : Stay} (h : Del l dk i j) (hx : l[j]? = some x) (hd : inS x = true) : Del l (dk.set i x) (i + 1) (j + 1) := by
  have hk : j < l.length := (List.getElem?_eq_some_iff.1 hx).1
  have hij := h.lt
  have hs := h.size
  have e : keepL (l.take (j + 1)) = keepL (l.take j) ++ [x] := by rw [take_succ_of hx, keepL_snoc, hd]; rfl
  refine ⟨by rw [List.length_set]; exact hs, by omega, by omega, ?_, by rw [e, List.length_append, h.len]; rfl, ?_⟩
  · rw [e, ← h.low, take_succ_of (x := x) (by rw [List.getElem?_set_self (by omega)]), List.take_set_of_le (by omega)]
  · have := h.high
    rw [List.drop_set_of_lt (by omega), ← List.drop_drop, ← List.drop_drop, this]
theorem Del.at {l dk : List Stay} {i j : Nat} (h : Del l dk i j) : dk[j]? = l[j]? := by
  have := congrArg (fun q => q[0]?) h.high
  simpa using this
theorem Del.done {l dk : List Stay} {i : Nat} (h : Del l dk i l.length) : dk.take i = keepL l ∧ (keepL l).length = i := by
  have a := h.low
  have b := h.len
  rw [List.take_length] at a b
  exact ⟨a, b⟩

theorem own_cut {w : World} {base : Nat} {e : TypeId} {g cap n sz : Nat} {xs : List Value} (hown : w.ownsRow base e sz (.slice (some ⟨g, 0, none⟩) n cap) n xs) (m : Nat) (hm : m ≤ n) :
    w.ownsRow base e sz (.slice (some ⟨g, 0, none⟩) m cap) m (xs.take (m * sz)) := by
  rcases hown.2 with ⟨h', _⟩ | ⟨g', cap', cur, h', hb, hg, hnc, hcm, hcs, htake⟩
  · simp at h'
  · simp only [Value.slice.injEq, Option.some.injEq, Addr.mk.injEq, and_true, true_and] at h'
    obtain ⟨rfl, rfl⟩ := h'
    have hmn : m * sz ≤ n * sz := Nat.mul_le_mul_right _ hm
    refine ⟨by rw [List.length_take, hown.1]; omega, .inr ⟨g, cap, cur, rfl, hb, hg, by omega, hcm, hcs, ?_⟩⟩
    rw [← htake, List.take_take, Nat.min_eq_left hmn]
theorem own_setCells {base : Nat} {e : TypeId} {g cap n sz : Nat} (vs : List Value) : ∀ (o : Nat) (w : World) (xs : List Value), w.ownsRow base e sz (.slice (some ⟨g, 0, none⟩) n cap) n xs →
    ∃ ys, (w.setCells g o vs).ownsRow base e sz (.slice (some ⟨g, 0, none⟩) n cap) n ys ∧ ys.take o = xs.take o ∧ w.grownBy (w.setCells g o vs) (some g) := by
  induction vs with
  | nil => intro o w xs h; exact ⟨xs, h, rfl, grown_refl _ _⟩
  | cons u r ih =>
    intro o w xs h
    obtain ⟨h1, h2⟩ := h.stored o u
    obtain ⟨ys, k1, k2, k3⟩ := ih (o + 1) _ _ h1
    refine ⟨ys, k1, ?_, grown_trans h2 k3⟩
    have := congrArg (List.take o) k2
    rw [List.take_take, List.take_take, Nat.min_eq_left (by omega)] at this
    rw [this, List.take_set_of_le (Nat.le_refl _)]
theorem own_step {w : World} {base : Nat} {e : TypeId} {g cap n : Nat} {out : List Stay} {k : Nat} (s1 s2 : Stay) (j : Nat) (u : Value) (hown : w.ownsRow base e 7 (.slice (some ⟨g, 0, none⟩) n cap) n ((out.set k s1).flatMap encS))
    (hk : k < out.length) (hj : j < 7) (he : (encS s1).set j u = encS s2) : (w.setCell ⟨g, k * 7 + j, none⟩ u).ownsRow base e 7 (.slice (some ⟨g, 0, none⟩) n cap) n ((out.set k s2).flatMap encS) := by
  have h := own_set (s := s1) (s' := s2) hown (by rw [List.getElem?_set_self hk]) hj he
  rwa [List.set_set] at h
theorem own_setAll {w : World} {base : Nat} {e : TypeId} {g cap n : Nat} {out : List Stay} {k : Nat} {s x : Stay} (hown : w.ownsRow base e 7 (.slice (some ⟨g, 0, none⟩) n cap) n (out.flatMap encS)) (hs : out[k]? = some s) :
    (w.setCells g (k * 7) (encS x)).ownsRow base e 7 (.slice (some ⟨g, 0, none⟩) n cap) n ((out.set k x).flatMap encS) ∧ w.grownBy (w.setCells g (k * 7) (encS x)) (some g) := by
  have hk : k < out.length := (List.getElem?_eq_some_iff.1 hs).1
  have hg := own_setCells (encS x) (k * 7) w _ hown
  rw [← set_same hs] at hown
  have a0 := own_step s { s with thread := x.thread } 0 (.int .i64 x.thread) hown hk (by omega) rfl
  have a1 := own_step _ { s with thread := x.thread, read := x.read } 1 (.bool x.read) a0 hk (by omega) rfl
  have a2 := own_step _ { s with thread := x.thread, read := x.read, ask := x.ask } 2 (.int .i64 x.ask) a1 hk (by omega) rfl
  have a3 := own_step _ { s with thread := x.thread, read := x.read, ask := x.ask, enter := x.enter } 3 (.int .i64 x.enter) a2 hk (by omega) rfl
  have a4 := own_step _ { s with thread := x.thread, read := x.read, ask := x.ask, enter := x.enter, exit := x.exit } 4 (.int .i64 x.exit) a3 hk (by omega) rfl
  have a5 := own_step _ { s with thread := x.thread, read := x.read, ask := x.ask, enter := x.enter, exit := x.exit, rest := x.rest } 5 (.int .i64 x.rest) a4 hk (by omega) rfl
  have a6 := own_step _ x 6 (.int .i64 x.count) a5 hk (by omega) rfl
  obtain ⟨ys, h1, h2, h3⟩ := hg
  exact ⟨a6, h3⟩

theorem run_clear_agg {P : Program} (w : World) (t e ty : TypeId) (z : Value) (ht : P.underlying t = some (.slice e)) (hv : ∀ w, (zeroValue e).run P w = .ok z w) (h1 : ∀ v ∈ z.cells, v.oneCell' = true) (hz : 0 < z.cells.size) (b o n c : Nat) (hn : 0 < n)
    (hc : ∀ j, j < n * z.cells.size → (w.cell? ⟨b, o + j, none⟩).isSome = true) (hf : ∀ j, j < n * z.cells.size → w.frozen? ⟨b, o + j, none⟩ = false) :
    (Builtin.clear_ #[t] ty #[.slice (some ⟨b, o, none⟩) n c]).run P w = .ok (.tuple #[]) (w.setCells b o (Builtin.zeroCells z.cells n).toList) := by
  have hl : (Builtin.zeroCells z.cells n).toList.length = n * z.cells.size := by simp [Builtin.zeroCells]
  have hst := run_storeCells_cells (P := P) b o (Builtin.zeroCells z.cells n).toList 0 w (by rw [hl]; simpa using hc) (by rw [hl]; simpa using hf) (by
    intro v hv'
    simp only [Builtin.zeroCells, Array.toList_map, List.mem_map] at hv'
    obtain ⟨i, _, rfl⟩ := hv'
    have hi : i % z.cells.size < z.cells.size := Nat.mod_lt _ hz
    rw [getElem!_pos z.cells _ hi]
    exact h1 _ (Array.getElem_mem hi))
  simp only [Nat.add_zero] at hst
  obtain ⟨m, rfl⟩ : ∃ m, n = m + 1 := ⟨n - 1, by omega⟩
  simp [Builtin.clear_, run_underlying ht, hv, hst]

theorem notIn_any (w : World) (s : Stay) : Calls Try.prog 87 #[.agg #[.int .i64 s.thread, .bool s.read, .int .i64 s.ask, .int .i64 s.enter, .int .i64 s.exit, .int .i64 s.rest, .int .i64 s.count]] w fun e w' => e = .returned (.bool (decide (s.enter < 0))) ∧ Below w.heap.size w w' := by
  go_enter Try.func87, Try.ntmps87
  go_wp2
  go_ret
  exact ⟨rfl, (Below.refl _ _).alloc (Nat.le_refl _) _⟩
theorem notIn_call (w : World) (s : Stay) (b : Bool) (hb : inS s = !b) : Calls Try.prog 87 #[.agg #[.int .i64 s.thread, .bool s.read, .int .i64 s.ask, .int .i64 s.enter, .int .i64 s.exit, .int .i64 s.rest, .int .i64 s.count]] w fun e w' => e = .returned (.bool b) ∧ Below w.heap.size w w' := by
  have : b = decide (s.enter < 0) := by
    unfold inS at hb
    cases b
    · simp at hb; simp; omega
    · simp at hb; simp; omega
  rw [this]
  exact notIn_any w s

theorem split_first (l : List Stay) : (∀ s ∈ l, inS s = true) ∨ ∃ k x, l[k]? = some x ∧ inS x = false ∧ ∀ s ∈ l.take k, inS s = true := by
  induction l with
  | nil => left; intro s hs; simp at hs
  | cons a l ih =>
    cases h : inS a with
    | false => exact .inr ⟨0, a, rfl, h, by simp⟩
    | true =>
      rcases ih with h1 | ⟨k, x, h2, h3, h4⟩
      · left; intro s hs; rcases List.mem_cons.1 hs with rfl | h'; exact h; exact h1 s h'
      · refine .inr ⟨k + 1, x, by simpa using h2, h3, ?_⟩
        intro s hs
        rw [List.take_succ_cons] at hs
        rcases List.mem_cons.1 hs with rfl | h'; exact h; exact h4 s h'

/-- what IndexFunc finds -/
def outAt (l : List Stay) (z : Int) : Prop :=
  (z = -1 ∧ ∀ s ∈ l, inS s = true) ∨ ∃ (k : Nat) (x : Stay), z = k ∧ l[k]? = some x ∧ inS x = false ∧ ∀ s ∈ l.take k, inS s = true

set_option maxHeartbeats 1000000 in
theorem indexOut_any (w : World) (v : Value) (l : List Stay) (h : RdL w v 7 encS l) :
    Calls Try.prog 106 #[v, .func (.func 87) #[] #[]] w fun e w' => ∃ z, e = .returned (.int .i64 z) ∧ outAt l z ∧ Below w.heap.size w w' := by
  obtain ⟨A, cap, rfl, l1, l2, hr⟩ := h
  have HR := Lib.hid hr
  clear hr
  go_enter Try.func106, Try.ntmps106
  go_wp2
  go_loopw [8] (fun i wr => ∃ k : Nat, i = .int .i64 k ∧ k ≤ l.length ∧ (∀ s ∈ l.take k, inS s = true) ∧ Below w.heap.size w wr) (fun i _ => l.length - (intOf i).toNat)
  case atStart => exact ⟨0, rfl, by omega, by simp, Below.refl _ _⟩
  case round =>
    obtain ⟨k, rfl, hk, ha, hbel⟩ := hrel
    by_cases hlt : k < l.length
    · obtain ⟨bl, off, rfl, hbl, hc⟩ := HR.out (by omega)
      obtain ⟨x, hx⟩ := getElem?_lt hlt
      have a0 := (hbel.cell (p := ⟨bl, off + k * 7 + 0, none⟩) hbl).trans (hc k x hx 0 _ rfl)
      have a1 := (hbel.cell (p := ⟨bl, off + k * 7 + 1, none⟩) hbl).trans (hc k x hx 1 _ rfl)
      have a2 := (hbel.cell (p := ⟨bl, off + k * 7 + 2, none⟩) hbl).trans (hc k x hx 2 _ rfl)
      have a3 := (hbel.cell (p := ⟨bl, off + k * 7 + 3, none⟩) hbl).trans (hc k x hx 3 _ rfl)
      have a4 := (hbel.cell (p := ⟨bl, off + k * 7 + 4, none⟩) hbl).trans (hc k x hx 4 _ rfl)
      have a5 := (hbel.cell (p := ⟨bl, off + k * 7 + 5, none⟩) hbl).trans (hc k x hx 5 _ rfl)
      have a6 := (hbel.cell (p := ⟨bl, off + k * 7 + 6, none⟩) hbl).trans (hc k x hx 6 _ rfl)
      simp only [Nat.add_zero] at a0
      have HX := Lib.hid (And.intro hx ha)
      have HB := Lib.hid hbel
      have hle := hbel.size
      clear hc hx ha hbel
      cases hin : inS x
      · have HI := Lib.hid hin
        clear hin
        go_wp2_with (go_at_call 87; go_loud (refine (notIn_call _ x true HI.out).mono ?_); rintro en w2 ⟨rfl, b2⟩)
        have HB2 := Lib.hid (HB.out.trans (b2.mono hle))
        clear b2
        go_ret
        exact ⟨_, rfl, .inr ⟨k, x, rfl, HX.out.1, HI.out, HX.out.2⟩, HB2.out⟩
      · have HI := Lib.hid hin
        clear hin
        go_wp2_with (go_at_call 87; go_loud (refine (notIn_call _ x false HI.out).mono ?_); rintro en w2 ⟨rfl, b2⟩)
        have HB2 := Lib.hid (HB.out.trans (b2.mono hle))
        clear b2
        go_roundw
        case rel =>
          refine ⟨k + 1, by go_num, by omega, ?_, HB2.out⟩
          intro s hs
          rw [take_succ_of HX.out.1] at hs
          rcases List.mem_append.1 hs with h' | h'
          · exact HX.out.2 s h'
          · simp at h'; rw [h']; exact HI.out
        case measure => first | (simp [intOf]; done) | (simp [intOf]; omega)
    · obtain rfl : k = l.length := by omega
      have HB := Lib.hid (And.intro ha hbel)
      clear ha hbel
      go_wp2
      go_ret
      exact ⟨_, rfl, .inl ⟨rfl, by have := HB.out.1; rwa [List.take_length] at this⟩, HB.out.2⟩
end Go.Proofs.Ytfbiejkdeadheaa
