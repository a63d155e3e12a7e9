/- Layer 45: the closure of family.Script: it appends picks to the slice in a captured variable. -/
import Derived.Test.YtfbiejkdeadheaaFam1
namespace Go.Proofs.Ytfbiejkdeadheaa
open Go.RowKit

def encP (p : Int × Int) : List Value := [.int .i64 p.1, .int .i64 p.2]
theorem encP_len (p : Int × Int) : (encP p).length = 2 := rfl
theorem Try.infoPick : (Try.prog.info? 108).map (fun i => (i.zero, i.size, i.bytes)) = some (some (.agg #[.int .i64 0, .int .i64 0]), 2, 16) := by kernel_rfl

/-- what a call of add lays behind the picks -/
def addL (t want : Int) (steps : Nat) : List (Int × Int) := (if want = 0 then [] else [(t, want)]) ++ List.replicate steps (t, 0)

/-- the captured variable at block B holds a slice of the call's own that reads as l -/
def Cap (w : World) (B base : Nat) (l : List (Int × Int)) : Prop :=
  ∃ v, w.heap[B]? = some (.cells #[v] 22 (0, 0)) ∧ w.ownsRow base 108 2 v l.length (l.flatMap encP) ∧ B < base ∧ base ≤ w.heap.size

theorem pick_cells (w : World) (x y : Int) : ∀ j u, (encP (x, y))[j]? = some u → (w.alloc (.cells #[.int .i64 x, .int .i64 y] 108)).cell? ((⟨w.heap.size, 0, none⟩ : Addr).add j) = some u := by
  intro j u hu
  have hadd : (⟨w.heap.size, 0, none⟩ : Addr).add j = ⟨w.heap.size, j, none⟩ := by unfold Addr.add; split <;> simp_all
  rw [hadd, cell_of_row (w.alloc _) w.heap.size j _ _ (0, 0) (heap_alloc_new w _)]
  simpa [encP] using hu
theorem pick_one (x y : Int) : ∀ u ∈ encP (x, y), u.oneCell' = true := by
  intro u hu; simp [encP] at hu; rcases hu with rfl | rfl <;> rfl

theorem own_form {w : World} {base : Nat} {e : TypeId} {sz : Nat} {v : Value} {n : Nat} {xs : List Value} (h : w.ownsRow base e sz v n xs) : ∃ A c, v = .slice A n c := by
  rcases h.2 with ⟨rfl, rfl⟩ | ⟨g, cap, cur, rfl, _⟩
  · exact ⟨_, _, rfl⟩
  · exact ⟨_, _, rfl⟩
/-- one pick appended, and the variable written: what the walk needs and what is left -/
theorem cap_add {w w2 : World} {B base : Nat} {l : List (Int × Int)} {v v' : Value} {x y : Int} {o : Obj}
    (hB : w.heap[B]? = some (.cells #[v] 22 (0, 0))) (hown : w.ownsRow base 108 2 v l.length (l.flatMap encP)) (hlt : B < base) (hle : base ≤ w.heap.size)
    (h2 : w2.ownsRow base 108 2 v' (l.length + 1) (l.flatMap encP ++ encP (x, y))) (hg : (w.alloc o).grownBy w2 v.ownBlock) :
    w2.heap[B]? = some (.cells #[v] 22 (0, 0)) ∧ Cap (w2.setCell ⟨B, 0, none⟩ v') B base (l ++ [(x, y)]) ∧ Below B w (w2.setCell ⟨B, 0, none⟩ v') := by
  have hr : ∀ k, v.ownBlock = some k → B < k := fun k hk => by have := (hown.lt k hk).1; omega
  have hne : some B ≠ v.ownBlock := fun e => by have := hr B e.symm; omega
  have hb2 : w2.heap[B]? = some (.cells #[v] 22 (0, 0)) := by
    rw [hg.block B (by simp; omega) hne, Below.heap_alloc _ _ _ (by omega)]
    exact hB
  have hs2 : w.heap.size + 1 ≤ w2.heap.size := by have := hg.size; simpa using this
  refine ⟨hb2, ⟨v', one_setCell hb2, ?_, hlt, by simp [World.setCell]; omega⟩, ?_⟩
  · have h3 := ownsRow_setCell_below h2 (a := ⟨B, 0, none⟩) hlt v'
    simpa [List.flatMap_append, List.flatMap_cons] using h3
  · exact (((Below.refl B w).alloc (by omega) o).grown hg (by simp; omega) (fun k hk => by have := hr k hk; omega)).setCell (Nat.le_refl _) v'

/-- the loop of add, from any list on -/
theorem rep_snoc (l : List (Int × Int)) (k : Nat) (x : Int × Int) : l ++ List.replicate (k + 1) x = (l ++ List.replicate k x) ++ [x] := by
  rw [List.replicate_succ', List.append_assoc]

set_option maxHeartbeats 1000000 in
theorem add_any (w0 : World) (B base : Nat) (l : List (Int × Int)) (t want : Int) (steps : Nat) (hc : Cap w0 B base l) (hl : l.length + steps ≤ 5000) :
    Calls Try.prog 63 #[.int .i64 t, .int .i64 want, .int .i64 (steps : Int), .pointer (some ⟨B, 0, none⟩)] w0 fun e w' => e = .returned (.tuple #[]) ∧ Cap w' B base (l ++ addL t want steps) ∧ Below B w0 w' := by
  obtain ⟨i0, hi, hz0, hz1, hz2⟩ := info_parts Try.infoPick
  by_cases hw : want = 0
  · subst hw
    go_enter Try.func63, Try.ntmps63
    go_wp2
    go_loopw [16] (fun i w => ∃ k : Nat, k ≤ steps ∧ i = .int .i64 k ∧ Cap w B base (l ++ List.replicate k (t, 0)) ∧ Below B w0 w) (fun i _ => steps - (intOf i).toNat)
    case atStart => exact ⟨0, by omega, rfl, by simpa using hc, Below.refl _ _⟩
    case round =>
      obtain ⟨k, hk, rfl, hcap, hbel⟩ := hrel
      by_cases hlt : k < steps
      · obtain ⟨m, hm⟩ : ∃ m, m = l ++ List.replicate k (t, (0 : Int)) := ⟨_, rfl⟩
        have hml : m.length ≤ 5000 := by rw [hm]; simp; omega
        rw [← hm] at hcap
        have HM := Lib.hid hm
        clear hm
        obtain ⟨v, hB, hown, hlt2, hle⟩ := hcap
        have hcB := cell_of_one hB
        have hfB := free_of_one hB
        have hBs : B < wr.heap.size := by omega
        go_wp2_with (at_builtin; refine wpList_append_own _ rfl _ _ 22 rfl base 108 i0 (.agg #[.int .i64 0, .int .i64 0]) 2 16 Try.underlying22 hi hz0 hz1 hz2 rfl (by decide) _ _ _ rfl (hown.alloc _) ⟨wr.heap.size, 0, none⟩ 1 1 (encP (t, 0)) rfl rfl (pick_cells wr t 0) (pick_one t 0) ?c3 ?c4 ?c5 ?_)
        case c3 => unfold maxLen; omega
        case c4 => omega
        case c5 => simp; omega
        intro v' w2 h2 hg _
        obtain ⟨A', c', rfl⟩ := own_form h2
        obtain ⟨hb2, hcap', hbel'⟩ := cap_add hB hown hlt2 hle h2 hg
        have hc2 := cell_of_one hb2
        have hf2 := free_of_one hb2
        clear hcB hfB
        go_wp2
        go_roundw
        case rel => exact ⟨k + 1, by omega, by go_num, by rw [rep_snoc, ← HM.out]; exact hcap', hbel.trans hbel'⟩
        case measure => simp [intOf]; omega
      · obtain rfl : k = steps := by omega
        go_wp2
        go_end0
        exact ⟨rfl, by simpa [addL] using hcap, hbel⟩
  · have hwb : (want == 0) = false := by simpa using hw
    have hwb2 : (want != 0) = true := by simpa using hw
    obtain ⟨v, hB, hown, hlt2, hle⟩ := hc
    have hcB := cell_of_one hB
    have hfB := free_of_one hB
    have hBs : B < w0.heap.size := by omega
    go_enter Try.func63, Try.ntmps63
    go_wp2_with (at_builtin; refine wpList_append_own _ rfl _ _ 22 rfl base 108 i0 (.agg #[.int .i64 0, .int .i64 0]) 2 16 Try.underlying22 hi hz0 hz1 hz2 rfl (by decide) _ _ _ rfl (hown.alloc _) ⟨w0.heap.size, 0, none⟩ 1 1 (encP (t, want)) rfl rfl (pick_cells w0 t want) (pick_one t want) ?c3 ?c4 ?c5 ?_)
    case c3 => unfold maxLen; omega
    case c4 => omega
    case c5 => simp; omega
    intro v' w2 h2 hg _
    obtain ⟨A', c', rfl⟩ := own_form h2
    obtain ⟨hb2, hcap1, hbel1⟩ := cap_add hB hown hlt2 hle h2 hg
    have hc2 := cell_of_one hb2
    have hf2 := free_of_one hb2
    have HF := Lib.hid (And.intro hcap1 hbel1)
    clear hcB hfB hcap1 hbel1 hB hown h2 hg hb2
    go_wp2
    go_loopw [16] (fun i w => ∃ k : Nat, k ≤ steps ∧ i = .int .i64 k ∧ Cap w B base ((l ++ [(t, want)]) ++ List.replicate k (t, 0)) ∧ Below B w0 w) (fun i _ => steps - (intOf i).toNat)
    case atStart => exact ⟨0, by omega, rfl, by simpa using HF.out.1, HF.out.2⟩
    case round =>
      obtain ⟨k, hk, rfl, hcap, hbel⟩ := hrel
      clear HF hc2 hf2
      by_cases hlt : k < steps
      · obtain ⟨m, hm⟩ : ∃ m, m = (l ++ [(t, want)]) ++ List.replicate k (t, (0 : Int)) := ⟨_, rfl⟩
        have hml : m.length ≤ 5001 := by rw [hm]; simp; omega
        rw [← hm] at hcap
        have HM := Lib.hid hm
        clear hm
        obtain ⟨v, hB, hown, hlt2, hle⟩ := hcap
        have hcB := cell_of_one hB
        have hfB := free_of_one hB
        have hBs : B < wr.heap.size := by omega
        go_wp2_with (at_builtin; refine wpList_append_own _ rfl _ _ 22 rfl base 108 i0 (.agg #[.int .i64 0, .int .i64 0]) 2 16 Try.underlying22 hi hz0 hz1 hz2 rfl (by decide) _ _ _ rfl (hown.alloc _) ⟨wr.heap.size, 0, none⟩ 1 1 (encP (t, 0)) rfl rfl (pick_cells wr t 0) (pick_one t 0) ?d3 ?d4 ?d5 ?_)
        case d3 => unfold maxLen; omega
        case d4 => omega
        case d5 => simp; omega
        intro v' w2 h2 hg _
        obtain ⟨A', c', rfl⟩ := own_form h2
        obtain ⟨hb2, hcap', hbel'⟩ := cap_add hB hown hlt2 hle h2 hg
        have hc2 := cell_of_one hb2
        have hf2 := free_of_one hb2
        clear hcB hfB
        go_wp2
        go_roundw
        case rel => exact ⟨k + 1, by omega, by go_num, by rw [rep_snoc, ← HM.out]; exact hcap', hbel.trans hbel'⟩
        case measure => simp [intOf]; omega
      · obtain rfl : k = steps := by omega
        go_wp2
        go_end0
        exact ⟨rfl, by simpa [addL, hw, List.append_assoc] using hcap, hbel⟩
end Go.Proofs.Ytfbiejkdeadheaa
