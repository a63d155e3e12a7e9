/- Layer 1: a new arena, and taking words. -/
import Derived.Test.YthgpjiebeinamaaAr2
import Derived.Deep.QuietTactic
import Derived.BigQuiet
namespace Go.Proofs.Ythgpjiebeinamaa
open Go.RowKit

theorem Try.infoAt : (Try.prog.info? 88).map (fun i => (i.zero, i.size, i.bytes)) = some (some (.agg #[.int .i64 0]), 1, 8) := by kernel_rfl
theorem made_const1 (u : Value) (n : Nat) : (madeCells #[u] n).toList = List.replicate n u := by
  unfold madeCells
  rw [Array.toList_map, Array.toList_range]
  refine List.ext_getElem? fun i => ?_
  rw [List.getElem?_map, List.getElem?_replicate]
  by_cases h : i < n
  · rw [List.getElem?_range h, if_pos h]; simp [Nat.mod_one]
  · rw [if_neg h]; simp; omega
theorem own_blk {w : World} {base : Nat} {e : TypeId} {sz g n : Nat} {xs : List Value} (h : w.ownsRow base e sz (.slice (some ⟨g, 0, none⟩) n n) n xs) : Blk w g e xs.toArray := by
  rcases h.2 with ⟨h', _⟩ | ⟨g', cap', cur, h', hb, hg, hnc, hcm, hcs, ht⟩
  · simp at h'
  · simp only [Value.slice.injEq, Option.some.injEq, Addr.mk.injEq, and_true, true_and] at h'
    obtain ⟨rfl, rfl⟩ := h'
    have e1 : cur = xs.toArray := by
      rw [← ht]
      apply Array.ext'
      rw [List.take_of_length_le (by rw [Array.length_toList, hcs]; exact Nat.le_refl _)]
    unfold Blk
    rw [hg, e1]
def clampA (room : Int) : Nat := if room < 0 then 0 else if 4096 < room then 4096 else room.toNat
def newAr (room : Int) : Ar := ⟨[], clampA room, 0, 0, 0, false⟩
def NewA (w : World) (room : Int) (e : Ending) (w' : World) : Prop := ∃ a g, e = .returned (.pointer (some ⟨a, 0, none⟩)) ∧ ArIs w' a g (newAr room) ∧ w.heap.size ≤ a ∧ w.heap.size ≤ g ∧ Below w.heap.size w w'
set_option maxRecDepth 100000 in
set_option maxHeartbeats 1000000 in
theorem newA_any (w : World) (room : Int) : Calls Try.prog 9 #[.int .i64 room] w (NewA w room) := by
  obtain ⟨i0, hi, hz0, hz1, hz2⟩ := info_parts Try.infoAt
  obtain ⟨n, hn⟩ : ∃ n, n = clampA room := ⟨_, rfl⟩
  have hc : n ≤ 4096 := by rw [hn]; unfold clampA; split <;> (try split) <;> omega
  have HN := Lib.hid hn
  have key : ∀ (w1 : World), w1.ownsRow w.heap.size 88 1 (.slice (some ⟨w.heap.size, 0, none⟩) n n) n (madeCells #[.int .i64 0] n).toList → w.grownBy w1 none →
      ArIs (w1.alloc (.cells #[.slice (some ⟨w.heap.size, 0, none⟩) n n, .int .i64 0, .int .i64 0, .int .i64 0, .int .i64 0, .bool false] 77)) w1.heap.size w.heap.size (newAr room) ∧ w.heap.size ≤ w1.heap.size ∧ Below w.heap.size w (w1.alloc (.cells #[.slice (some ⟨w.heap.size, 0, none⟩) n n, .int .i64 0, .int .i64 0, .int .i64 0, .int .i64 0, .bool false] 77)) := by
    intro w1 hown hg
    rw [made_const1] at hown
    have hb := own_blk hown
    have hlt := hb.lt
    refine ⟨⟨?_, ?_, by omega, by simp [newAr], by simp [newAr]; omega, by simp [newAr]⟩, by omega, ((Below.refl w.heap.size w).grown hg (Nat.le_refl _) (fun j hj => by cases hj)).alloc (by omega) _⟩
    · have := Blk.new w1 77 (arCells w.heap.size (newAr room))
      unfold arCells newAr at this ⊢
      rw [← HN.out] at this ⊢
      simpa using this
    · have e : (wdL (newAr room)).toArray = (List.replicate n (Value.int .i64 0)).toArray := by unfold wdL newAr; simp [← HN.out]
      rw [e]
      exact hb.alloc _
  have KEY := Lib.hid key
  clear key
  rcases (show 4096 < room ∨ (room ≤ 4096 ∧ 0 < room) ∨ room ≤ 0 by omega) with h | ⟨h, h'⟩ | h
  · have E : Hid ((4096 : Int) = (n : Int)) := Lib.hid (by rw [hn]; unfold clampA; rw [if_neg (by omega), if_pos h]; rfl)
    clear hn
    go_enter Try.func9, Try.ntmps9
    go_wp2_with (refine wpList_make_full _ rfl (.tmp 5) (.tmp 5) 75 rfl w.heap.size 88 i0 (.agg #[.int .i64 0]) 1 Try.underlying75 hi hz0 hz1 .i64 .i64 4096 4096 n rfl rfl E.out E.out ?b2 ?b3 (Nat.le_refl _) ?_)
    case b2 => rw [hz2]; omega
    case b3 => unfold maxLen; omega
    intro w1 hown hg
    obtain ⟨k1, k2, k3⟩ := KEY.out w1 hown hg
    clear hown hg
    go_wp2
    go_ret
    exact ⟨_, _, rfl, k1, k2, Nat.le_refl _, k3⟩
  · have E : Hid (room = (n : Int)) := Lib.hid (by rw [hn]; unfold clampA; rw [if_neg (by omega), if_neg (by omega)]; omega)
    clear hn
    go_enter Try.func9, Try.ntmps9
    go_wp2_with (refine wpList_make_full _ rfl (.tmp 5) (.tmp 5) 75 rfl w.heap.size 88 i0 (.agg #[.int .i64 0]) 1 Try.underlying75 hi hz0 hz1 .i64 .i64 room room n rfl rfl E.out E.out ?b2 ?b3 (Nat.le_refl _) ?_)
    case b2 => rw [hz2]; omega
    case b3 => unfold maxLen; omega
    intro w1 hown hg
    obtain ⟨k1, k2, k3⟩ := KEY.out w1 hown hg
    clear hown hg
    go_wp2
    go_ret
    exact ⟨_, _, rfl, k1, k2, Nat.le_refl _, k3⟩
  · have E : Hid ((0 : Int) = (n : Int)) := Lib.hid (by rw [hn]; unfold clampA; split <;> (try split) <;> omega)
    have h4 : room ≤ 4096 := by omega
    clear hn
    go_enter Try.func9, Try.ntmps9
    go_wp2_with (refine wpList_make_full _ rfl (.tmp 5) (.tmp 5) 75 rfl w.heap.size 88 i0 (.agg #[.int .i64 0]) 1 Try.underlying75 hi hz0 hz1 .i64 .i64 0 0 n rfl rfl E.out E.out ?b2 ?b3 (Nat.le_refl _) ?_)
    case b2 => rw [hz2]; omega
    case b3 => unfold maxLen; omega
    intro w1 hown hg
    obtain ⟨k1, k2, k3⟩ := KEY.out w1 hown hg
    clear hown hg
    go_wp2
    go_ret
    exact ⟨_, _, rfl, k1, k2, Nat.le_refl _, k3⟩

def takeA (s : Ar) (n : Int) : Ar × Int × Int :=
  if n < 0 then (s, (0 : Int), (1 : Int)) else if (s.room : Int) - s.W.length < n then (s, (0 : Int), (3 : Int)) else ({ s with W := s.W ++ List.replicate n.toNat 0 }, (s.W.length : Int) + 1, (0 : Int))
def TakeOk (w : World) (a g : Nat) (x : Ar × Int × Int) (e : Ending) (w' : World) : Prop := e = .returned (.tuple #[.int .i64 x.2.1, .int .i64 x.2.2]) ∧ ArIs w' a g x.1 ∧ Turns [a] w w'
set_option maxRecDepth 100000 in
set_option maxHeartbeats 1000000 in
theorem take_any {w : World} {a g : Nat} {s : Ar} (h : ArIs w a g s) (n : Int) :
    Calls Try.prog 35 #[.pointer (some ⟨a, 0, none⟩), .int .i64 n] w (TakeOk w a g (takeA s n)) := by
  have H := Lib.hid h
  have c0 := h.c0
  have c1 := h.c1
  have f1 := h.blk.free 1
  have hle := h.le
  have hro := h.room
  have hlt := h.blk.lt
  clear h
  by_cases h0 : n < 0
  · have e : takeA s n = (s, (0 : Int), (1 : Int)) := by unfold takeA; rw [if_pos h0]
    have HE := Lib.hid e
    clear e
    go_enter Try.func35, Try.ntmps35
    go_wp2
    go_ret2
    rw [HE.out]
    exact ⟨rfl, H.out, Turns.refl _ _⟩
  · by_cases h1 : (s.room : Int) - s.W.length < n
    · have e : takeA s n = (s, (0 : Int), (3 : Int)) := by unfold takeA; rw [if_neg h0, if_pos h1]
      have HE := Lib.hid e
      have x1 : IntKind.i64.wrap ((s.room : Int) - s.W.length) = (s.room : Int) - s.W.length := IntWalk.i64_in _ (by omega)
      clear e
      go_enter Try.func35, Try.ntmps35
      go_wp2
      go_quiet (fail)
      go_wp2
      go_ret2
      rw [HE.out]
      exact ⟨rfl, H.out.turns (S := []) ((Turns.refl _ _).drewN _) (by simp) (by simp), (Turns.refl _ _).drewN _⟩
    · have e : takeA s n = ({ s with W := s.W ++ List.replicate n.toNat 0 }, (s.W.length : Int) + 1, (0 : Int)) := by unfold takeA; rw [if_neg h0, if_neg h1]
      have HE := Lib.hid e
      have x1 : IntKind.i64.wrap ((s.room : Int) - s.W.length) = (s.room : Int) - s.W.length := IntWalk.i64_in _ (by omega)
      have h2 : n ≤ 4096 := by omega
      clear e
      go_enter Try.func35, Try.ntmps35
      go_wp2
      go_quiet (fail)
      clear x1
      go_wp2
      go_ret2
      rw [HE.out]
      obtain ⟨m, rfl⟩ := Int.eq_ofNat_of_zero_le (show 0 ≤ n by omega)
      have hb := (H.out.blk.drewN nq).set_ 1 (.int .i64 (s.W.length + m))
      have hw := (H.out.wds.drewN nq).far (p := ⟨a, 1, none⟩) H.out.ne.symm (.int .i64 (s.W.length + m))
      refine ⟨rfl, ⟨?_, ?_, H.out.ne, by simp; omega, hro, H.out.ops⟩, ((Turns.refl _ _).drewN _).setCell (.inl (by simp)) _⟩
      · have e : arCells g ({ s with W := s.W ++ List.replicate ((m : Int).toNat) 0 }) = (arCells g s).setIfInBounds 1 (.int .i64 (s.W.length + m)) := by
          unfold arCells; simp
        rw [e]; exact hb
      · have e : wdL { s with W := s.W ++ List.replicate ((m : Int).toNat) 0 } = wdL s := by
          unfold wdL
          congr 1
          rw [List.append_assoc, List.append_cancel_left_eq, List.replicate_append_replicate]
          congr 1
          simp; omega
        rw [e]; exact hw
end Go.Proofs.Ythgpjiebeinamaa
