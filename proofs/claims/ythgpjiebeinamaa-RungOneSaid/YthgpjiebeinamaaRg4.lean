/- Layer 26: a new rung. -/
import Derived.Test.YthgpjiebeinamaaRg3
import Derived.Test.YthgpjiebeinamaaAr3
namespace Go.Proofs.Ythgpjiebeinamaa
open Go.RowKit

theorem Try.infoSp : (Try.prog.info? 33).map (fun i => (i.zero, i.size, i.bytes)) = some (some (.agg #[.int .i64 0, .int .i64 0, .int .i64 0, .int .i64 0]), 4, 32) := by kernel_rfl
theorem made_const4 (u : Value) (n : Nat) : (madeCells #[u, u, u, u] n).toList = List.replicate n u := by
  unfold madeCells
  rw [Array.toList_map, Array.toList_range]
  refine List.ext_getElem? fun i => ?_
  rw [List.getElem?_map, List.getElem?_replicate]
  by_cases h : i < n
  · rw [List.getElem?_range h, if_pos h]
    have : i % 4 = 0 ∨ i % 4 = 1 ∨ i % 4 = 2 ∨ i % 4 = 3 := by omega
    rcases this with e | e | e | e <;> simp [e]
  · rw [if_neg h]; simp; omega
theorem flat_zero (n : Nat) : (List.replicate n Sp.zero).flatMap encP4 = List.replicate (n * 4) (.int .i64 0) := by
  induction n with
  | zero => rfl
  | succ n ih => rw [List.replicate_succ, List.flatMap_cons, ih, show (n + 1) * 4 = 4 + n * 4 by omega, ← List.replicate_append_replicate]; rfl
def newRgOk (s : Ar) (n : Int) : Int := if n < 1 ∨ 32 < n then 1 else if (s.room : Int) - s.W.length < 2 * n + 1 then 3 else 0
def NewRg (w : World) (a g : Nat) (s : Ar) (n : Int) (e : Ending) (w' : World) : Prop :=
  if newRgOk s n = 0 then ∃ l q, e = .returned (.tuple #[.pointer (some ⟨l, 0, none⟩), .int .i64 0]) ∧ RgIs w' l a g q (s.W.length + 1) ⟨{ s with W := s.W ++ List.replicate (2 * n + 1).toNat 0 }, List.replicate n.toNat Sp.zero⟩ ∧ w.heap.size ≤ l ∧ w.heap.size ≤ q ∧ Turns [a] w w'
  else e = .returned (.tuple #[.pointer none, .int .i64 (newRgOk s n)]) ∧ ArIs w' a g s ∧ Turns [a] w w'
set_option maxRecDepth 100000 in
set_option maxHeartbeats 1000000 in
theorem newRg_any {w : World} {a g : Nat} {s : Ar} (h : ArIs w a g s) (n : Int) :
    Calls Try.prog 10 #[.pointer (some ⟨a, 0, none⟩), .int .i64 n] w (NewRg w a g s n) := by
  obtain ⟨i0, hi, hz0, hz1, hz2⟩ := info_parts Try.infoSp
  have H := Lib.hid h
  have hle := h.le
  have hro := h.room
  clear h
  by_cases h0 : n < 1 ∨ 32 < n
  · have HE : Hid (newRgOk s n = 1) := Lib.hid (by unfold newRgOk; rw [if_pos h0])
    by_cases h1 : n < 1
    · clear h0
      go_enter Try.func10, Try.ntmps10
      go_wp2
      go_ret2
      unfold NewRg
      rw [HE.out, if_neg (by decide)]
      exact ⟨rfl, H.out, Turns.refl _ _⟩
    · have h2 : 32 < n := by omega
      clear h0
      go_enter Try.func10, Try.ntmps10
      go_wp2
      go_ret2
      unfold NewRg
      rw [HE.out, if_neg (by decide)]
      exact ⟨rfl, H.out, Turns.refl _ _⟩
  · obtain ⟨m, rfl⟩ := Int.eq_ofNat_of_zero_le (show 0 ≤ n by omega)
    have h1 : ¬ (m : Int) < 1 := by omega
    have h2 : ¬ 32 < (m : Int) := by omega
    have hm : m ≤ 32 := by omega
    by_cases h3 : (s.room : Int) - s.W.length < 2 * m + 1
    · have HE : Hid (newRgOk s m = 3) := Lib.hid (by unfold newRgOk; rw [if_neg h0, if_pos h3])
      have HT : Hid (takeA s (2 * m + 1) = (s, (0 : Int), (3 : Int))) := Lib.hid (by unfold takeA; rw [if_neg (by omega), if_pos h3])
      clear h0 h3
      go_enter Try.func10, Try.ntmps10
      go_wp2_with fail
      refine (take_any H.out (2 * m + 1)).mono ?_
      rintro en w1 ⟨rfl, k1, t1⟩
      rw [HT.out] at k1 ⊢
      have H1 := Lib.hid (And.intro k1 t1)
      clear k1 t1
      go_wp2
      go_ret2
      unfold NewRg
      rw [HE.out, if_neg (by decide)]
      exact ⟨rfl, H1.out.1, H1.out.2⟩
    · have HE : Hid (newRgOk s m = 0) := Lib.hid (by unfold newRgOk; rw [if_neg h0, if_neg h3])
      have HT : Hid (takeA s (2 * m + 1) = ({ s with W := s.W ++ List.replicate (2 * (m : Int) + 1).toNat 0 }, (s.W.length : Int) + 1, (0 : Int))) := Lib.hid (by unfold takeA; rw [if_neg (by omega), if_neg h3])
      clear h0 h3
      go_enter Try.func10, Try.ntmps10
      go_wp2_with fail
      refine (take_any H.out (2 * m + 1)).mono ?_
      rintro en w1 ⟨rfl, k1, t1⟩
      rw [HT.out] at k1 ⊢
      have H1 := Lib.hid (And.intro k1 t1)
      clear k1 t1
      go_wp2_with (refine wpList_make_full _ rfl (.tmp 27) (.tmp 27) 56 rfl w1.heap.size 33 i0 (.agg #[.int .i64 0, .int .i64 0, .int .i64 0, .int .i64 0]) 4 Try.underlying56 hi hz0 hz1 .i64 .i64 m m m rfl rfl rfl rfl ?b2 ?b3 (Nat.le_refl _) ?_)
      case b2 => rw [hz2]; omega
      case b3 => unfold maxLen; omega
      intro w2 hown hg
      have hb : SpIs w2 w1.heap.size (List.replicate m Sp.zero) := by
        unfold SpIs
        rw [flat_zero]
        have := own_blk hown
        have e : (madeCells #[Value.int .i64 0, .int .i64 0, .int .i64 0, .int .i64 0] (m * 4)).toList = List.replicate (m * 4) (.int .i64 0) := made_const4 _ _
        rw [e] at this
        exact this
      have t2 : Turns [] w1 w2 := Turns.of_below ((Below.refl w1.heap.size w1).grown hg (Nat.le_refl _) (fun j hj => by cases hj))
      have hs2 := hb.lt
      have H2 := Lib.hid (And.intro hb t2)
      clear hown hg hb t2
      go_wp2
      go_ret2
      unfold NewRg
      rw [HE.out, if_pos rfl]
      have hs1 := H1.out.2.size
      have hsw := H2.out.2.size
      have hk := (H1.out.1.turns H2.out.2 (by simp) (by simp))
      have hka := hk.blk.lt
      have hkg := hk.wds.lt
      have ha1 := H1.out.1.blk.lt
      have hg1 := H1.out.1.wds.lt
      refine ⟨w2.heap.size, w1.heap.size, rfl, ⟨?_, ?_, ?_, ?_, ?_, ?_, ?_, ?_, ?_⟩, ?_, ?_, ?_⟩
      · exact hk.turns (S := []) ((Turns.refl _ _).alloc _) (by simp) (by simp)
      · have := Blk.new w2 81 #[.pointer (some ⟨a, 0, none⟩), .int .i64 (s.W.length + 1), .slice (some ⟨w1.heap.size, 0, none⟩) m m]
        simpa using this
      · simpa using H2.out.1.turns (T := []) ((Turns.refl _ _).alloc _) (by simp)
      all_goals (try simp only [List.length_replicate, Int.toNat_natCast])
      all_goals first
        | omega
        | exact (((H1.out.2.trans (H2.out.2.mono (by simp))).alloc _))
end Go.Proofs.Ythgpjiebeinamaa
