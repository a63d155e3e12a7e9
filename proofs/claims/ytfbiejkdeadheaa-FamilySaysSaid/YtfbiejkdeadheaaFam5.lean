/- Layer 45: the document's script. -/
import Derived.Test.YtfbiejkdeadheaaFam4
namespace Go.Proofs.Ytfbiejkdeadheaa
open Go.RowKit

def roundF (k : Nat) : Int × Int := (1, if k = 0 then 1 else if k = 8 then 2 else 0)
theorem roundL_eq (b : Int) : roundL b = (List.range (9 + outN b)).map roundF := by
  unfold roundL outN; split <;> decide

set_option maxHeartbeats 1000000 in
theorem rscript_arg (b m : Int) (w : World) (h : b < 0 ∨ 1000 < b ∨ m < 0) : Calls Try.prog 15 #[.int .i64 b, .int .i64 m] w fun e w' => e = .returned (.tuple #[.slice none 0 0, .int .i64 1]) ∧ w = w' := by
  by_cases h0 : b < 0
  · go_enter Try.func15, Try.ntmps15
    go_wp2
    go_ret2
    exact ⟨rfl, rfl⟩
  · by_cases h1 : 1000 < b
    · go_enter Try.func15, Try.ntmps15
      go_wp2
      go_ret2
      exact ⟨rfl, rfl⟩
    · have h2 : m < 0 := by omega
      clear h
      go_enter Try.func15, Try.ntmps15
      go_wp2
      go_ret2
      exact ⟨rfl, rfl⟩

set_option maxHeartbeats 1000000 in
theorem rscript_many (b : Int) (m : Nat) (w : World) (h0 : 0 ≤ b) (h1 : b ≤ 1000) (h : ¬ 4 + m * (9 + outN b) + 4 ≤ 4000) : Calls Try.prog 15 #[.int .i64 b, .int .i64 m] w fun e w' => e = .returned (.tuple #[.slice none 0 0, .int .i64 8]) ∧ w = w' := by
  by_cases h4 : 4000 < (m : Int)
  · clear h
    by_cases hb : 0 < b
    all_goals
      go_enter Try.func15, Try.ntmps15
      go_wp2
      go_ret2
      exact ⟨rfl, rfl⟩
  · have hm0 : 0 ≤ (m : Int) := by omega
    by_cases hb : 0 < b
    · have h5 : 4000 < 8 + (m : Int) * 15 := by
        have : outN b = 6 := by unfold outN; rw [if_pos hb]
        rw [this] at h; omega
      clear h
      go_enter Try.func15, Try.ntmps15
      go_wp2
      go_ret2
      exact ⟨rfl, rfl⟩
    · have h5 : 4000 < 8 + (m : Int) * 14 := by
        have : outN b = 5 := by unfold outN; rw [if_neg hb]
        rw [this] at h; omega
      clear h
      go_enter Try.func15, Try.ntmps15
      go_wp2
      go_ret2
      exact ⟨rfl, rfl⟩

/-- out of the call's own row of picks, one more -/
theorem own_snoc {w : World} {base : Nat} {v : Value} {l : List (Int × Int)} {x : Int × Int} (h : w.ownsRow base 108 2 v (l.length + 1) (l.flatMap encP ++ encP x)) :
    w.ownsRow base 108 2 v (l ++ [x]).length ((l ++ [x]).flatMap encP) := by
  simpa [List.flatMap_append, List.flatMap_cons] using h

theorem pick_cells' (w : World) (x y : Int) {g : Nat} (hg : g = w.heap.size) : ∀ j u, (encP (x, y))[j]? = some u → (w.alloc (.cells #[.int .i64 x, .int .i64 y] 108)).cell? ((⟨g, 0, none⟩ : Addr).add j) = some u := by
  subst hg; exact pick_cells w x y
theorem ref_bel {w wr w2 : World} {e : TypeId} {sz n : Nat} {v : Value} {xs : List Value} {o o' : Obj} (hb : Below w.heap.size w wr) (hg : ((wr.alloc o).alloc o').grownBy w2 v.ownBlock) (h : (wr.alloc o).ownsRow w.heap.size e sz v n xs) : Below w.heap.size w w2 :=
  ((hb.alloc hb.size o).alloc (by have := hb.size; simp; omega) o').grown hg (by have := hb.size; simp; omega) (fun k hk => (h.lt k hk).1)
theorem ref_bel1 {w wr w2 : World} {e : TypeId} {sz n : Nat} {v : Value} {xs : List Value} {o : Obj} (hb : Below w.heap.size w wr) (hg : (wr.alloc o).grownBy w2 v.ownBlock) (h : wr.ownsRow w.heap.size e sz v n xs) : Below w.heap.size w w2 :=
  (hb.alloc hb.size o).grown hg (by have := hb.size; simp; omega) (fun k hk => (h.lt k hk).1)
theorem partL_round (b : Int) (k : Nat) : partL b (k + 1) = partL b k ++ roundL b := by
  simp [partL, List.replicate_succ', List.append_assoc]

set_option maxRecDepth 100000 in
set_option maxHeartbeats 4000000 in
theorem rscript_ok6 (b : Int) (m : Nat) (w : World) (h0 : 0 ≤ b) (h1 : b ≤ 1000) (hsz : 4 + m * (9 + outN b) + 4 ≤ 4000) (hb : 0 < b) :
    Calls Try.prog 15 #[.int .i64 b, .int .i64 m] w fun e w' => ∃ v, e = .returned (.tuple #[v, .int .i64 0]) ∧ RdL w' v 2 encP (scriptL b m) ∧ Below w.heap.size w w' := by
  obtain ⟨i0, hi, hz0, hz1, hz2⟩ := info_parts Try.infoPick
  have h9 : m * 9 ≤ m * (9 + outN b) := Nat.mul_le_mul_left m (by omega)
  have hm0 : (0 : Int) ≤ m := by omega
  have hmm : (m : Int) ≤ 4000 := by omega
  have HP : Hid (∀ k, k ≤ m → (partL b k).length + 20 ≤ 4900) := fun k hk => by
    rw [partL_len]; have : k * (9 + outN b) ≤ m * (9 + outN b) := Nat.mul_le_mul_right _ hk
    omega
  have HZ := Lib.hid hsz
  have ho : outN b = 6 := by unfold outN; rw [if_pos hb]
  have h5 : 8 + (m : Int) * 15 ≤ 4000 := by rw [ho] at hsz; omega
  have HO := Lib.hid ho
  clear hsz h9 ho
  go_enter Try.func15, Try.ntmps15
  go_wp2_with fail
  generalize hS : ((ByteArray.mk #[108, 115, 115, 115, 115, 115, 115, 115, 117, 115, 115, 115, 115, 115]) ++ (ByteArray.mk #[115])) = s
  have hss : s.size = 15 ∧ ∀ j (h : j < s.size), ((s[j].toNat : Int) == 108) = decide (j = 0) ∧ ((s[j].toNat : Int) == 117) = decide (j = 8) := by rw [← hS]; decide
  have HSS := Lib.hid hss
  clear hS hss
  go_loopw [7, 8] (fun v i wr => ∃ k : Nat, k ≤ m ∧ i = .int .i64 k ∧ wr.ownsRow w.heap.size 108 2 v (partL b k).length ((partL b k).flatMap encP) ∧ Below w.heap.size w wr) (fun _ i _ => m - (intOf i).toNat)
  case atStart =>
    refine ⟨0, by omega, rfl, ?_, (Below.refl _ _).alloc (Nat.le_refl _) _⟩
    have e : partL b 0 = [(0, 1), (0, 0), (0, 0), (0, 0)] := by simp [partL, addL]
    rw [e]
    exact World.ownsRow_lit w _ 4 (Nat.le_refl _) (by unfold maxLen; omega) rfl
  case round =>
    obtain ⟨k, hk, rfl, hown, hbel⟩ := hrel
    have hP := HP.out k hk
    by_cases hlt : k < m
    · have HOW := Lib.hid hown
      clear hown
      go_wp2_with fail
      have HB := Lib.hid hbel
      clear hbel
      go_loopw [7, 9] (fun v i wr => ∃ j : Nat, j ≤ 15 ∧ i = .int .i64 j ∧ wr.ownsRow w.heap.size 108 2 v (partL b k ++ (List.range j).map roundF).length ((partL b k ++ (List.range j).map roundF).flatMap encP) ∧ Below w.heap.size w wr) (fun _ i _ => 15 - (intOf i).toNat)
      case atStart => exact ⟨0, by omega, rfl, by simpa using HOW.out, HB.out⟩
      case round =>
        clear HOW HB
        obtain ⟨j, hj, rfl, hown, hbel⟩ := hrel
        by_cases hlt2 : j < 15
        · obtain ⟨q, hq⟩ : ∃ q, q = partL b k ++ (List.range j).map roundF := ⟨_, rfl⟩
          have hql : q.length ≤ 5000 := by rw [hq]; simp; omega
          rw [← hq] at hown
          have HQ := Lib.hid hq
          clear hq
          have hjs : (j : Int) < (s.size : Int) := by rw [HSS.out.1]; omega
          have hjs2 : j < s.size := by omega
          obtain ⟨hb1, hb2⟩ := HSS.out.2 j hjs2
          have hle := hbel.size
          by_cases j0 : j = 0
          · rw [decide_eq_true j0] at hb1
            rw [decide_eq_false (by omega)] at hb2
            have hJ : roundF j = (1, 1) := by unfold roundF; rw [if_pos j0]
            have HJ := Lib.hid hJ
            clear hJ
            clear j0
            go_wp2_with (at_builtin; refine wpList_append_own _ rfl _ _ 22 rfl w.heap.size 108 i0 (.agg #[.int .i64 0, .int .i64 0]) 2 16 Try.underlying22 hi hz0 hz1 hz2 rfl (by decide) _ _ _ rfl ((hown.alloc _).alloc _) ⟨wr.heap.size + 1, 0, none⟩ 1 1 (encP (1, 1)) rfl rfl (pick_cells' _ 1 1 (by simp)) (pick_one 1 1) ?c3 ?c4 ?c5 ?_)
            case c3 => unfold maxLen; omega
            case c4 => omega
            case c5 => simp; omega
            intro v' w2 h2 hg _
            have h3 := own_snoc h2
            rw [← HJ.out] at h3
            have HR := Lib.hid (And.intro h3 (ref_bel hbel hg (hown.alloc _)))
            clear h3 h2 hg hown hbel hb1 hb2
            go_wp2
            go_roundw
            case rel => exact ⟨j + 1, by omega, by go_num, by rw [List.range_succ, List.map_append, ← List.append_assoc, ← HQ.out]; exact HR.out.1, HR.out.2⟩
            case measure => simp [intOf]; omega
          · by_cases j8 : j = 8
            · rw [decide_eq_false j0] at hb1
              rw [decide_eq_true j8] at hb2
              have hJ : roundF j = (1, 2) := by unfold roundF; rw [if_neg j0, if_pos j8]
              have HJ := Lib.hid hJ
              clear hJ
              clear j0 j8
              go_wp2_with (at_builtin; refine wpList_append_own _ rfl _ _ 22 rfl w.heap.size 108 i0 (.agg #[.int .i64 0, .int .i64 0]) 2 16 Try.underlying22 hi hz0 hz1 hz2 rfl (by decide) _ _ _ rfl ((hown.alloc _).alloc _) ⟨wr.heap.size + 1, 0, none⟩ 1 1 (encP (1, 2)) rfl rfl (pick_cells' _ 1 2 (by simp)) (pick_one 1 2) ?d3 ?d4 ?d5 ?_)
              case d3 => unfold maxLen; omega
              case d4 => omega
              case d5 => simp; omega
              intro v' w2 h2 hg _
              have h3 := own_snoc h2
              rw [← HJ.out] at h3
              have HR := Lib.hid (And.intro h3 (ref_bel hbel hg (hown.alloc _)))
              clear h3 h2 hg hown hbel hb1 hb2
              go_wp2
              go_roundw
              case rel => exact ⟨j + 1, by omega, by go_num, by rw [List.range_succ, List.map_append, ← List.append_assoc, ← HQ.out]; exact HR.out.1, HR.out.2⟩
              case measure => simp [intOf]; omega
            · rw [decide_eq_false j0] at hb1
              rw [decide_eq_false j8] at hb2
              have hJ : roundF j = (1, 0) := by unfold roundF; rw [if_neg j0, if_neg j8]
              have HJ := Lib.hid hJ
              clear hJ
              clear j0 j8
              go_wp2_with (at_builtin; refine wpList_append_own _ rfl _ _ 22 rfl w.heap.size 108 i0 (.agg #[.int .i64 0, .int .i64 0]) 2 16 Try.underlying22 hi hz0 hz1 hz2 rfl (by decide) _ _ _ rfl ((hown.alloc _).alloc _) ⟨wr.heap.size + 1, 0, none⟩ 1 1 (encP (1, 0)) rfl rfl (pick_cells' _ 1 0 (by simp)) (pick_one 1 0) ?e3 ?e4 ?e5 ?_)
              case e3 => unfold maxLen; omega
              case e4 => omega
              case e5 => simp; omega
              intro v' w2 h2 hg _
              have h3 := own_snoc h2
              rw [← HJ.out] at h3
              have HR := Lib.hid (And.intro h3 (ref_bel hbel hg (hown.alloc _)))
              clear h3 h2 hg hown hbel hb1 hb2
              go_wp2
              go_roundw
              case rel => exact ⟨j + 1, by omega, by go_num, by rw [List.range_succ, List.map_append, ← List.append_assoc, ← HQ.out]; exact HR.out.1, HR.out.2⟩
              case measure => simp [intOf]; omega
        · obtain rfl : j = 15 := by omega
          have hend : (s.size : Int) ≤ 15 := by rw [HSS.out.1]; omega
          have h3 := hown
          rw [show 15 = 9 + outN b from by rw [HO.out], ← roundL_eq, ← partL_round] at h3
          have HR := Lib.hid (And.intro h3 hbel)
          clear h3 hown hbel
          go_wp2
          go_roundw
          case rel => exact ⟨k + 1, by omega, by go_num, HR.out.1, HR.out.2⟩
          case measure => simp [intOf]; omega
    · obtain rfl : k = m := by omega
      have HOW := Lib.hid (And.intro hown hbel)
      clear hown hbel
      go_wp2_with fail
      go_loopw [7, 11] (fun v i wr => ∃ j : Nat, j ≤ 4 ∧ i = .int .i64 j ∧ wr.ownsRow w.heap.size 108 2 v (partL b k ++ List.replicate j (0, 0)).length ((partL b k ++ List.replicate j (0, 0)).flatMap encP) ∧ Below w.heap.size w wr) (fun _ i _ => 4 - (intOf i).toNat)
      case atStart => exact ⟨0, by omega, rfl, by simpa using HOW.out.1, HOW.out.2⟩
      case round =>
        clear HOW
        obtain ⟨j, hj, rfl, hown, hbel⟩ := hrel
        by_cases hlt2 : j < 4
        · obtain ⟨q, hq⟩ : ∃ q, q = partL b k ++ List.replicate j ((0 : Int), (0 : Int)) := ⟨_, rfl⟩
          have hql : q.length ≤ 5000 := by rw [hq]; simp; omega
          rw [← hq] at hown
          have HQ := Lib.hid hq
          clear hq
          have hle := hbel.size
          go_wp2_with (at_builtin; refine wpList_append_own _ rfl _ _ 22 rfl w.heap.size 108 i0 (.agg #[.int .i64 0, .int .i64 0]) 2 16 Try.underlying22 hi hz0 hz1 hz2 rfl (by decide) _ _ _ rfl (hown.alloc _) ⟨wr.heap.size, 0, none⟩ 1 1 (encP (0, 0)) rfl rfl (pick_cells wr 0 0) (pick_one 0 0) ?g3 ?g4 ?g5 ?_)
          case g3 => unfold maxLen; omega
          case g4 => omega
          case g5 => simp; omega
          intro v' w2 h2 hg _
          have h3 := own_snoc h2
          have HR := Lib.hid (And.intro h3 (ref_bel1 hbel hg hown))
          clear h3 h2 hg hown hbel
          go_wp2
          go_roundw
          case rel => exact ⟨j + 1, by omega, by go_num, by rw [rep_snoc, ← HQ.out]; exact HR.out.1, HR.out.2⟩
          case measure => simp [intOf]; omega
        · obtain rfl : j = 4 := by omega
          obtain ⟨q, hq⟩ : ∃ q, q = partL b k ++ List.replicate 4 ((0 : Int), (0 : Int)) := ⟨_, rfl⟩
          rw [← hq] at hown
          have hq2 : q = scriptL b k := by rw [hq]; rfl
          have hql : q.length ≤ 140737488355328 := by have := scriptL_len b k; have := HZ.out; rw [hq2]; omega
          have HR := Lib.hid (And.intro hq2 (And.intro hql (And.intro hown hbel)))
          clear hq hq2 hql hown hbel
          go_wp2
          go_ret2
          exact ⟨_, rfl, by rw [← HR.out.1]; exact RdL.of_own encP_len rfl HR.out.2.1 HR.out.2.2.1, HR.out.2.2.2⟩

set_option maxRecDepth 100000 in
set_option maxHeartbeats 4000000 in
theorem rscript_ok5 (b : Int) (m : Nat) (w : World) (h0 : 0 ≤ b) (h1 : b ≤ 1000) (hsz : 4 + m * (9 + outN b) + 4 ≤ 4000) (hb : ¬ 0 < b) :
    Calls Try.prog 15 #[.int .i64 b, .int .i64 m] w fun e w' => ∃ v, e = .returned (.tuple #[v, .int .i64 0]) ∧ RdL w' v 2 encP (scriptL b m) ∧ Below w.heap.size w w' := by
  obtain ⟨i0, hi, hz0, hz1, hz2⟩ := info_parts Try.infoPick
  have h9 : m * 9 ≤ m * (9 + outN b) := Nat.mul_le_mul_left m (by omega)
  have hm0 : (0 : Int) ≤ m := by omega
  have hmm : (m : Int) ≤ 4000 := by omega
  have HP : Hid (∀ k, k ≤ m → (partL b k).length + 20 ≤ 4900) := fun k hk => by
    rw [partL_len]; have : k * (9 + outN b) ≤ m * (9 + outN b) := Nat.mul_le_mul_right _ hk
    omega
  have HZ := Lib.hid hsz
  have ho : outN b = 5 := by unfold outN; rw [if_neg hb]
  have h5 : 8 + (m : Int) * 14 ≤ 4000 := by rw [ho] at hsz; omega
  have HO := Lib.hid ho
  clear hsz h9 ho
  go_enter Try.func15, Try.ntmps15
  go_wp2_with fail
  generalize hS : (ByteArray.mk #[108, 115, 115, 115, 115, 115, 115, 115, 117, 115, 115, 115, 115, 115]) = s
  have hss : s.size = 14 ∧ ∀ j (h : j < s.size), ((s[j].toNat : Int) == 108) = decide (j = 0) ∧ ((s[j].toNat : Int) == 117) = decide (j = 8) := by rw [← hS]; decide
  have HSS := Lib.hid hss
  clear hS hss
  go_loopw [7, 8] (fun v i wr => ∃ k : Nat, k ≤ m ∧ i = .int .i64 k ∧ wr.ownsRow w.heap.size 108 2 v (partL b k).length ((partL b k).flatMap encP) ∧ Below w.heap.size w wr) (fun _ i _ => m - (intOf i).toNat)
  case atStart =>
    refine ⟨0, by omega, rfl, ?_, (Below.refl _ _).alloc (Nat.le_refl _) _⟩
    have e : partL b 0 = [(0, 1), (0, 0), (0, 0), (0, 0)] := by simp [partL, addL]
    rw [e]
    exact World.ownsRow_lit w _ 4 (Nat.le_refl _) (by unfold maxLen; omega) rfl
  case round =>
    obtain ⟨k, hk, rfl, hown, hbel⟩ := hrel
    have hP := HP.out k hk
    by_cases hlt : k < m
    · have HOW := Lib.hid hown
      clear hown
      go_wp2_with fail
      have HB := Lib.hid hbel
      clear hbel
      go_loopw [7, 9] (fun v i wr => ∃ j : Nat, j ≤ 14 ∧ i = .int .i64 j ∧ wr.ownsRow w.heap.size 108 2 v (partL b k ++ (List.range j).map roundF).length ((partL b k ++ (List.range j).map roundF).flatMap encP) ∧ Below w.heap.size w wr) (fun _ i _ => 14 - (intOf i).toNat)
      case atStart => exact ⟨0, by omega, rfl, by simpa using HOW.out, HB.out⟩
      case round =>
        clear HOW HB
        obtain ⟨j, hj, rfl, hown, hbel⟩ := hrel
        by_cases hlt2 : j < 14
        · obtain ⟨q, hq⟩ : ∃ q, q = partL b k ++ (List.range j).map roundF := ⟨_, rfl⟩
          have hql : q.length ≤ 5000 := by rw [hq]; simp; omega
          rw [← hq] at hown
          have HQ := Lib.hid hq
          clear hq
          have hjs : (j : Int) < (s.size : Int) := by rw [HSS.out.1]; omega
          have hjs2 : j < s.size := by omega
          obtain ⟨hb1, hb2⟩ := HSS.out.2 j hjs2
          have hle := hbel.size
          by_cases j0 : j = 0
          · rw [decide_eq_true j0] at hb1
            rw [decide_eq_false (by omega)] at hb2
            have hJ : roundF j = (1, 1) := by unfold roundF; rw [if_pos j0]
            have HJ := Lib.hid hJ
            clear hJ
            clear j0
            go_wp2_with (at_builtin; refine wpList_append_own _ rfl _ _ 22 rfl w.heap.size 108 i0 (.agg #[.int .i64 0, .int .i64 0]) 2 16 Try.underlying22 hi hz0 hz1 hz2 rfl (by decide) _ _ _ rfl ((hown.alloc _).alloc _) ⟨wr.heap.size + 1, 0, none⟩ 1 1 (encP (1, 1)) rfl rfl (pick_cells' _ 1 1 (by simp)) (pick_one 1 1) ?c3 ?c4 ?c5 ?_)
            case c3 => unfold maxLen; omega
            case c4 => omega
            case c5 => simp; omega
            intro v' w2 h2 hg _
            have h3 := own_snoc h2
            rw [← HJ.out] at h3
            have HR := Lib.hid (And.intro h3 (ref_bel hbel hg (hown.alloc _)))
            clear h3 h2 hg hown hbel hb1 hb2
            go_wp2
            go_roundw
            case rel => exact ⟨j + 1, by omega, by go_num, by rw [List.range_succ, List.map_append, ← List.append_assoc, ← HQ.out]; exact HR.out.1, HR.out.2⟩
            case measure => simp [intOf]; omega
          · by_cases j8 : j = 8
            · rw [decide_eq_false j0] at hb1
              rw [decide_eq_true j8] at hb2
              have hJ : roundF j = (1, 2) := by unfold roundF; rw [if_neg j0, if_pos j8]
              have HJ := Lib.hid hJ
              clear hJ
              clear j0 j8
              go_wp2_with (at_builtin; refine wpList_append_own _ rfl _ _ 22 rfl w.heap.size 108 i0 (.agg #[.int .i64 0, .int .i64 0]) 2 16 Try.underlying22 hi hz0 hz1 hz2 rfl (by decide) _ _ _ rfl ((hown.alloc _).alloc _) ⟨wr.heap.size + 1, 0, none⟩ 1 1 (encP (1, 2)) rfl rfl (pick_cells' _ 1 2 (by simp)) (pick_one 1 2) ?d3 ?d4 ?d5 ?_)
              case d3 => unfold maxLen; omega
              case d4 => omega
              case d5 => simp; omega
              intro v' w2 h2 hg _
              have h3 := own_snoc h2
              rw [← HJ.out] at h3
              have HR := Lib.hid (And.intro h3 (ref_bel hbel hg (hown.alloc _)))
              clear h3 h2 hg hown hbel hb1 hb2
              go_wp2
              go_roundw
              case rel => exact ⟨j + 1, by omega, by go_num, by rw [List.range_succ, List.map_append, ← List.append_assoc, ← HQ.out]; exact HR.out.1, HR.out.2⟩
              case measure => simp [intOf]; omega
            · rw [decide_eq_false j0] at hb1
              rw [decide_eq_false j8] at hb2
              have hJ : roundF j = (1, 0) := by unfold roundF; rw [if_neg j0, if_neg j8]
              have HJ := Lib.hid hJ
              clear hJ
              clear j0 j8
              go_wp2_with (at_builtin; refine wpList_append_own _ rfl _ _ 22 rfl w.heap.size 108 i0 (.agg #[.int .i64 0, .int .i64 0]) 2 16 Try.underlying22 hi hz0 hz1 hz2 rfl (by decide) _ _ _ rfl ((hown.alloc _).alloc _) ⟨wr.heap.size + 1, 0, none⟩ 1 1 (encP (1, 0)) rfl rfl (pick_cells' _ 1 0 (by simp)) (pick_one 1 0) ?e3 ?e4 ?e5 ?_)
              case e3 => unfold maxLen; omega
              case e4 => omega
              case e5 => simp; omega
              intro v' w2 h2 hg _
              have h3 := own_snoc h2
              rw [← HJ.out] at h3
              have HR := Lib.hid (And.intro h3 (ref_bel hbel hg (hown.alloc _)))
              clear h3 h2 hg hown hbel hb1 hb2
              go_wp2
              go_roundw
              case rel => exact ⟨j + 1, by omega, by go_num, by rw [List.range_succ, List.map_append, ← List.append_assoc, ← HQ.out]; exact HR.out.1, HR.out.2⟩
              case measure => simp [intOf]; omega
        · obtain rfl : j = 14 := by omega
          have hend : (s.size : Int) ≤ 14 := by rw [HSS.out.1]; omega
          have h3 := hown
          rw [show 14 = 9 + outN b from by rw [HO.out], ← roundL_eq, ← partL_round] at h3
          have HR := Lib.hid (And.intro h3 hbel)
          clear h3 hown hbel
          go_wp2
          go_roundw
          case rel => exact ⟨k + 1, by omega, by go_num, HR.out.1, HR.out.2⟩
          case measure => simp [intOf]; omega
    · obtain rfl : k = m := by omega
      have HOW := Lib.hid (And.intro hown hbel)
      clear hown hbel
      go_wp2_with fail
      go_loopw [7, 11] (fun v i wr => ∃ j : Nat, j ≤ 4 ∧ i = .int .i64 j ∧ wr.ownsRow w.heap.size 108 2 v (partL b k ++ List.replicate j (0, 0)).length ((partL b k ++ List.replicate j (0, 0)).flatMap encP) ∧ Below w.heap.size w wr) (fun _ i _ => 4 - (intOf i).toNat)
      case atStart => exact ⟨0, by omega, rfl, by simpa using HOW.out.1, HOW.out.2⟩
      case round =>
        clear HOW
        obtain ⟨j, hj, rfl, hown, hbel⟩ := hrel
        by_cases hlt2 : j < 4
        · obtain ⟨q, hq⟩ : ∃ q, q = partL b k ++ List.replicate j ((0 : Int), (0 : Int)) := ⟨_, rfl⟩
          have hql : q.length ≤ 5000 := by rw [hq]; simp; omega
          rw [← hq] at hown
          have HQ := Lib.hid hq
          clear hq
          have hle := hbel.size
          go_wp2_with (at_builtin; refine wpList_append_own _ rfl _ _ 22 rfl w.heap.size 108 i0 (.agg #[.int .i64 0, .int .i64 0]) 2 16 Try.underlying22 hi hz0 hz1 hz2 rfl (by decide) _ _ _ rfl (hown.alloc _) ⟨wr.heap.size, 0, none⟩ 1 1 (encP (0, 0)) rfl rfl (pick_cells wr 0 0) (pick_one 0 0) ?g3 ?g4 ?g5 ?_)
          case g3 => unfold maxLen; omega
          case g4 => omega
          case g5 => simp; omega
          intro v' w2 h2 hg _
          have h3 := own_snoc h2
          have HR := Lib.hid (And.intro h3 (ref_bel1 hbel hg hown))
          clear h3 h2 hg hown hbel
          go_wp2
          go_roundw
          case rel => exact ⟨j + 1, by omega, by go_num, by rw [rep_snoc, ← HQ.out]; exact HR.out.1, HR.out.2⟩
          case measure => simp [intOf]; omega
        · obtain rfl : j = 4 := by omega
          obtain ⟨q, hq⟩ : ∃ q, q = partL b k ++ List.replicate 4 ((0 : Int), (0 : Int)) := ⟨_, rfl⟩
          rw [← hq] at hown
          have hq2 : q = scriptL b k := by rw [hq]; rfl
          have hql : q.length ≤ 140737488355328 := by have := scriptL_len b k; have := HZ.out; rw [hq2]; omega
          have HR := Lib.hid (And.intro hq2 (And.intro hql (And.intro hown hbel)))
          clear hq hq2 hql hown hbel
          go_wp2
          go_ret2
          exact ⟨_, rfl, by rw [← HR.out.1]; exact RdL.of_own encP_len rfl HR.out.2.1 HR.out.2.2.1, HR.out.2.2.2⟩


theorem rscript_ok (b : Int) (m : Nat) (w : World) (h0 : 0 ≤ b) (h1 : b ≤ 1000) (hsz : 4 + m * (9 + outN b) + 4 ≤ 4000) :
    Calls Try.prog 15 #[.int .i64 b, .int .i64 m] w fun e w' => ∃ v, e = .returned (.tuple #[v, .int .i64 0]) ∧ RdL w' v 2 encP (scriptL b m) ∧ Below w.heap.size w w' := by
  by_cases hb : 0 < b
  · exact rscript_ok6 b m w h0 h1 hsz hb
  · exact rscript_ok5 b m w h0 h1 hsz hb
end Go.Proofs.Ytfbiejkdeadheaa
