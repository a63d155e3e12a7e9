/- Layers 1, 15 and 26: taking words from the document's new arena; spots; the document's new rung. -/
import Derived.Test.YthgpjiebeinamaaRr5
namespace Go.Proofs.Ythgpjiebeinamaa
open Go.RowKit

theorem Try.infoI : (Try.prog.info? 3).map (fun i => (i.zero, i.size, i.bytes)) = some (some (.int .i64 0), 1, 8) := by kernel_rfl
theorem cell_one (w : World) (t : TypeId) (u : Value) {g : Nat} (hg : g = w.heap.size) : ∀ j x, [u][j]? = some x → (w.alloc (.cells #[u] t)).cell? ((⟨g, 0, none⟩ : Addr).add j) = some x := by
  intro j x hx
  subst hg
  have hadd : (⟨w.heap.size, 0, none⟩ : Addr).add j = ⟨w.heap.size, j, none⟩ := by unfold Addr.add; split <;> simp_all
  rw [hadd, cell_of_row (w.alloc _) w.heap.size j _ _ (0, 0) (heap_alloc_new w _)]
  simpa using hx
theorem rep_succ {α : Type} (k : Nat) (u : α) : List.replicate (k + 1) u = List.replicate k u ++ [u] := by rw [List.replicate_succ']
theorem Turns.grow {S : List Nat} {a w w' : World} {row : Option Nat} (h : Turns S a w) (hg : w.grownBy w' row) (hr : ∀ j, row = some j → a.heap.size ≤ j) : Turns S a w' :=
  ⟨hg.os.trans h.os, hg.tape.trans h.tape, hg.output.trans h.output, Nat.le_trans h.size hg.size, fun i hi hn => (hg.block i (Nat.lt_of_lt_of_le hi h.size) (by intro e; have := hr i e.symm; omega)).trans (h.block i hi hn)⟩
def RTake (w : World) (b room n : Nat) (e : Ending) (w' : World) : Prop :=
  if room < n then e = .returned (.tuple #[.int .i64 0, .int .i64 3]) ∧ Turns [b] w w'
  else ∃ gw cap, e = .returned (.tuple #[.int .i64 1, .int .i64 0]) ∧ RaIs w' b gw cap ⟨List.replicate n 0, room, 0, 0, 0, false⟩ ∧ w.heap.size ≤ gw ∧ Turns [b] w w'
set_option maxRecDepth 100000 in
set_option maxHeartbeats 2000000 in
theorem rtake_any {w : World} {b room n : Nat} (h : RaNew w b room) (hroom : room ≤ 4096) (hn1 : 1 ≤ n) (hn2 : n ≤ 65) :
    Calls Try.prog 38 #[.pointer (some ⟨b, 0, none⟩), .int .i64 n] w (RTake w b room n) := by
  obtain ⟨i0, hi, hz0, hz1, hz2⟩ := info_parts Try.infoI
  have c0 : w.cell? ⟨b, 0, none⟩ = some (.int .i64 room) := Blk.cell h 0
  have c1 : w.cell? ⟨b, 1, none⟩ = some (.slice none 0 0) := Blk.cell h 1
  have hbl := Blk.lt h
  have H := Lib.hid h
  clear h
  by_cases hr : room < n
  · have x1 : IntKind.i64.wrap ((room : Int) - 0) = (room : Int) := by rw [Int.sub_zero]; exact IntWalk.i64_in _ (by omega)
    have t1 : (room : Int) < n := by omega
    have HRr := Lib.hid hr
    clear hr
    go_enter Try.func38, Try.ntmps38
    go_wp2
    go_quiet (fail)
    go_wp2
    go_ret2
    unfold RTake
    rw [if_pos HRr.out]
    exact ⟨rfl, (Turns.refl _ _).drewN _⟩
  · have x1 : IntKind.i64.wrap ((room : Int) - 0) = (room : Int) := by rw [Int.sub_zero]; exact IntWalk.i64_in _ (by omega)
    have t1 : ¬ (room : Int) < n := by omega
    have t9 : decide (room < n) = false := decide_eq_false hr
    have HRr := Lib.hid hr
    clear hr
    go_enter Try.func38, Try.ntmps38
    go_wp2
    go_quiet (fail)
    clear x1
    go_wp2
    go_loopw [7] (fun i wr => ∃ (k : Nat) (v : Value), i = .int .i64 k ∧ k ≤ n ∧ Blk wr b 55 #[.int .i64 room, v, .int .i64 0, .int .i64 0, .int .i64 0, .bool false] ∧ wr.ownsRow w.heap.size 3 1 v k (List.replicate k (.int .i64 0)) ∧ Turns [b] w wr) (fun i _ => n - (intOf i).toNat)
    case atStart => exact ⟨0, .slice none 0 0, rfl, by omega, Blk.drewN H.out _, World.ownsRow_nil _ _ _ _, (Turns.refl _ _).drewN _⟩
    case round =>
      clear c0 c1
      obtain ⟨k, v, rfl, hk, hb, hown, ht⟩ := hrel
      by_cases hlt : k < n
      · have c1 : wr.cell? ⟨b, 1, none⟩ = some v := hb.cell 1
        have f1 := hb.free 1
        have hbl2 := hb.lt
        have hsz := ht.size
        obtain ⟨A', cp, rfl⟩ := own_form hown
        have HB := Lib.hid (And.intro hb (And.intro hown ht))
        clear hb ht
        go_wp2_with (at_builtin; refine wpList_append_own _ rfl _ _ 22 rfl w.heap.size 3 i0 (.int .i64 0) 1 8 Try.underlying22 hi hz0 hz1 hz2 rfl (by decide) _ _ _ rfl (hown.alloc _) ⟨wr.heap.size, 0, none⟩ 1 1 [.int .i64 0] rfl rfl (cell_one wr 3 (.int .i64 0) rfl) (by intro u hu; simp at hu; subst hu; rfl) ?c3 ?c4 ?c5 ?_)
        case c3 => unfold maxLen; omega
        case c4 => omega
        case c5 => simp; omega
        intro v' w2 h2 hg2 _
        have hne : some b ≠ (Value.slice A' k cp).ownBlock := by
          intro he
          have := (hown.lt b he.symm).1
          omega
        have hb2 : Blk w2 b 55 #[.int .i64 room, .slice A' k cp, .int .i64 0, .int .i64 0, .int .i64 0, .bool false] := Blk.grown (HB.out.1.alloc _) hg2 hne
        have ht2 : Turns [b] w w2 := (HB.out.2.2.alloc (.cells #[.int .i64 0] 3)).grow hg2 (fun j hj => (hown.lt j hj).1)
        have h3 : w2.ownsRow w.heap.size 3 1 v' (k + 1) (List.replicate (k + 1) (.int .i64 0)) := by rw [rep_succ]; exact h2
        have d1 : w2.cell? ⟨b, 1, none⟩ = some (.slice A' k cp) := hb2.cell 1
        have f2 := hb2.free 1
        have hl2 := hb2.lt
        obtain ⟨g2, cp2, rfl, hg0, hg1⟩ := own_form1 h3 (by omega)
        have ht3 : Turns [b] w2 (w2.setCell ⟨b, 1, none⟩ (.slice (some ⟨g2, 0, none⟩) (k + 1) cp2)) := (Turns.refl _ _).setCell (.inl (by simp)) _
        have HF : Hid (Blk (w2.setCell ⟨b, 1, none⟩ (.slice (some ⟨g2, 0, none⟩) (k + 1) cp2)) b 55 #[.int .i64 room, .slice (some ⟨g2, 0, none⟩) (k + 1) cp2, .int .i64 0, .int .i64 0, .int .i64 0, .bool false] ∧ (w2.setCell ⟨b, 1, none⟩ (.slice (some ⟨g2, 0, none⟩) (k + 1) cp2)).ownsRow w.heap.size 3 1 (.slice (some ⟨g2, 0, none⟩) (k + 1) cp2) (k + 1) (List.replicate (k + 1) (.int .i64 0)) ∧ Turns [b] w (w2.setCell ⟨b, 1, none⟩ (.slice (some ⟨g2, 0, none⟩) (k + 1) cp2))) :=
          Lib.hid ⟨by simpa using hb2.set_ 1 (.slice (some ⟨g2, 0, none⟩) (k + 1) cp2), Turns.own h3 ht3 (by intro g hg; simp [Value.ownBlock] at hg; subst hg; simp; omega), ht2.trans ht3⟩
        clear h2 hg2 hb2 ht2 h3 ht3 hown hne
        go_wp2
        go_roundw
        case rel => first | exact ⟨k + 1, _, by go_num, by omega, HF.out.1, HF.out.2.1, HF.out.2.2⟩ | ((repeat apply Exists.intro); exact ⟨⟨k + 1, _, by go_num, by omega, HF.out.1, HF.out.2.1, HF.out.2.2⟩, rfl⟩)
        case measure => simp [intOf]; omega
      · obtain rfl : k = n := by omega
        obtain ⟨g2, cp2, rfl, hg0, hg1⟩ := own_form1 hown (by omega)
        have HB := Lib.hid (And.intro hb (And.intro hown ht))
        clear hb ht hown
        go_wp2
        go_ret2
        unfold RTake
        rw [if_neg HRr.out]
        refine ⟨g2, cp2, rfl, ⟨?_, ?_, by omega, by simp; omega, by simp⟩, hg0, HB.out.2.2⟩
        · simpa using HB.out.1
        · have := HB.out.2.1
          simp only [List.length_replicate, List.map_replicate]
          rcases this.2 with ⟨h', _⟩ | ⟨g', cap', cur, h', r1, r2, r3⟩
          · simp at h'
          · exact ⟨this.1, .inr ⟨g', cap', cur, h', Nat.zero_le _, r2, r3⟩⟩

theorem Try.infoS : (Try.prog.info? 33).map (fun i => (i.zero, i.size, i.bytes)) = some (some (.agg #[.int .i64 0, .int .i64 0, .int .i64 0, .int .i64 0]), 4, 32) := by kernel_rfl
theorem cell_four (w : World) (t : TypeId) (u v x y : Value) {g : Nat} (hg : g = w.heap.size) : ∀ j z, [u, v, x, y][j]? = some z → (w.alloc (.cells #[u, v, x, y] t)).cell? ((⟨g, 0, none⟩ : Addr).add j) = some z := by
  intro j z hz
  subst hg
  have hadd : (⟨w.heap.size, 0, none⟩ : Addr).add j = ⟨w.heap.size, j, none⟩ := by unfold Addr.add; split <;> simp_all
  rw [hadd, cell_of_row (w.alloc _) w.heap.size j _ _ (0, 0) (heap_alloc_new w _)]
  simpa using hz
set_option maxRecDepth 100000 in
set_option maxHeartbeats 2000000 in
theorem spots_any (w : World) (n : Nat) (hn : n ≤ 32) :
    Calls Try.prog 39 #[.int .i64 n] w fun e w' => ∃ v, e = .returned v ∧ w'.ownsRow w.heap.size 33 4 v n ((List.replicate n Sp.zero).flatMap encP4) ∧ Below w.heap.size w w' := by
  obtain ⟨i0, hi, hz0, hz1, hz2⟩ := info_parts Try.infoS
  go_enter Try.func39, Try.ntmps39
  go_wp2
  go_loopw [3, 4] (fun v i wr => ∃ (k : Nat), i = .int .i64 k ∧ k ≤ n ∧ wr.ownsRow w.heap.size 33 4 v k ((List.replicate k Sp.zero).flatMap encP4) ∧ Below w.heap.size w wr) (fun _ i _ => n - (intOf i).toNat)
  case atStart => exact ⟨0, rfl, by omega, World.ownsRow_nil _ _ _ _, Below.refl _ _⟩
  case round =>
    obtain ⟨k, rfl, hk, hown, hb⟩ := hrel
    by_cases hlt : k < n
    · obtain ⟨A', cp, rfl⟩ := own_form hown
      have hsz := hb.size
      have HB := Lib.hid hb
      clear hb
      go_wp2_with (at_builtin; refine wpList_append_own _ rfl _ _ 56 rfl w.heap.size 33 i0 (.agg #[.int .i64 0, .int .i64 0, .int .i64 0, .int .i64 0]) 4 32 Try.underlying56 hi hz0 hz1 hz2 rfl (by decide) _ _ _ rfl (hown.alloc _) ⟨wr.heap.size, 0, none⟩ 1 1 (encP4 Sp.zero) rfl rfl (cell_four wr 33 _ _ _ _ rfl) (by intro u hu; simp [encP4] at hu; rcases hu with rfl | rfl | rfl | rfl <;> rfl) ?c3 ?c4 ?c5 ?_)
      case c3 => unfold maxLen; omega
      case c4 => omega
      case c5 => simp; omega
      intro v' w2 h2 hg2 _
      have h3 : w2.ownsRow w.heap.size 33 4 v' (k + 1) ((List.replicate (k + 1) Sp.zero).flatMap encP4) := by
        rw [rep_succ, List.flatMap_append]
        simpa using h2
      have HF := Lib.hid (And.intro h3 ((HB.out.alloc hsz (.cells #[.int .i64 0, .int .i64 0, .int .i64 0, .int .i64 0] 33)).grown hg2 (by simp; omega) (fun j hj => (hown.lt j hj).1)))
      clear h2 hg2 h3 hown
      go_wp2
      go_roundw
      case rel => exact ⟨k + 1, by go_num, by omega, HF.out.1, HF.out.2⟩
      case measure => simp [intOf]; omega
    · obtain rfl : k = n := by omega
      have HB := Lib.hid (And.intro hown hb)
      clear hown hb
      go_wp2
      go_ret
      exact ⟨_, rfl, HB.out.1, HB.out.2⟩
end Go.Proofs.Ythgpjiebeinamaa
