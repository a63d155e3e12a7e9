/- Joined: Top3, Top4, Top5, Top6, Pa1, Pa3, Pa4, Pa5. -/
import Derived.Laws.OwnMore
import Derived.OwnWalk
import Derived.Maps.AppendAt
import Derived.Deep.RegionHeld3
import Derived.Deep.DeepCutAuto
import Derived.Tactics
import Derived.Tactics2
import Derived.Defers
import Derived.Laws.Pointers
import Derived.Laws.LoneSync
import Derived.RegionTactic
import Derived.RegionCalls
import Derived.ChangeAlike
import Derived.Test.YtagajjilccjplaaGreatMgFamilyPasses1
import Derived.Test.YtagajjilccjplaaGreatMgFamilyPasses6
section
set_option linter.unusedVariables false
set_option linter.unusedSimpArgs false
/- Layer 6: topo.tree, inner, leaves, levels. -/
namespace Go.Proofs.YtagajjilccjplaaGreat
open Go.RowKit

theorem all_false {f : Nat → Bool} {n k : Nat} (hk : k < n) (h : f k = false) : (List.range n).all f = false := by
  rw [List.all_eq_false]
  exact ⟨k, List.mem_range.2 hk, by simp [h]⟩
set_option maxRecDepth 100000 in
set_option maxHeartbeats 1000000 in
theorem tree_any (w : World) (v : Value) (P : List Int) (h : RdL w v 1 encI P) :
    Calls Tryz.prog 78 #[v] w fun e w' => e = .returned (.bool (treeB P)) ∧ w = w' := by
  obtain ⟨A, cap, rfl, l1, l2, hr⟩ := h
  have HR := Lib.hid hr
  clear hr
  go_enter Tryz.func78, Tryz.ntmps78
  go_wp2
  go_loop [7] (fun i => ∃ k : Nat, i = .int .i64 k ∧ k ≤ P.length ∧ (List.range k).all (okP P) = true) (fun i => P.length - (intOf i).toNat)
  case atStart => exact ⟨0, rfl, by omega, rfl⟩
  case round =>
    obtain ⟨k, rfl, hk, ha⟩ := hrel
    by_cases hlt : k < P.length
    · obtain ⟨bl, off, rfl, hbl, hc⟩ := HR.out (by omega)
      obtain ⟨p, hp⟩ := getElem?_lt hlt
      have c0 := hc k p hp 0 _ rfl
      simp only [Nat.add_zero, Nat.mul_one] at c0
      have HP := Lib.hid (And.intro (getD_of hp) ha)
      clear hc hp ha
      by_cases hok : (k = 0 → p = -1) ∧ (0 < k → 0 ≤ p ∧ p < k)
      · have HF : Hid ((List.range (k + 1)).all (okP P) = true) := Lib.hid (by
          rw [range_all_succ, HP.out.2]
          simp only [Bool.true_and]
          exact decide_eq_true (by rw [HP.out.1]; exact hok))
        by_cases h0 : k = 0
        · have e1 := hok.1 h0
          subst h0
          subst e1
          simp only [Nat.add_zero] at c0
          go_wp2
          go_round
          case rel => exact ⟨1, by rfl, by omega, HF.out⟩
          case measure => simp [intOf]; omega
        · obtain ⟨e1, e2⟩ := hok.2 (by omega)
          have t0 : ((k : Int) == 0) = false := by rw [beq_eq_false_iff_ne]; omega
          have t1 : decide (0 < k) = true := decide_eq_true (by omega)
          have t2 : decide (p < 0) = false := decide_eq_false (by omega)
          have t3 : decide ((k : Int) ≤ p) = false := decide_eq_false (by omega)
          clear hok h0
          go_wp2
          go_round
          case rel => exact ⟨k + 1, by go_num, by omega, HF.out⟩
          case measure => simp [intOf]; omega
      · have HF : Hid (treeB P = false) := Lib.hid (all_false hlt (decide_eq_false (by rw [HP.out.1]; exact hok)))
        by_cases h0 : k = 0
        · subst h0
          simp only [Nat.add_zero] at c0
          have t1 : (p != -1) = true := by rw [bne_iff_ne]; intro h; exact hok ⟨fun _ => h, by omega⟩
          clear hok
          go_wp2
          go_ret
          exact ⟨ret_bool HF.out.symm, rfl⟩
        · have t0 : ((k : Int) == 0) = false := by rw [beq_eq_false_iff_ne]; omega
          have t1 : decide (0 < k) = true := decide_eq_true (by omega)
          by_cases hp0 : p < 0
          · clear hok h0
            go_wp2
            go_ret
            exact ⟨ret_bool HF.out.symm, rfl⟩
          · have t3 : decide ((k : Int) ≤ p) = true := decide_eq_true (by omega)
            have t2 : decide (p < 0) = false := decide_eq_false (by omega)
            clear hok h0
            go_wp2
            go_ret
            exact ⟨ret_bool HF.out.symm, rfl⟩
    · obtain rfl : k = P.length := by omega
      have HF : Hid (treeB P = true) := Lib.hid ha
      clear ha
      go_wp2
      go_ret
      exact ⟨ret_bool HF.out.symm, rfl⟩

def encB (b : Bool) : List Value := [.bool b]
theorem encB_len (b : Bool) : (encB b).length = 1 := rfl
theorem Tryz.infoBool : (Tryz.prog.info? 4).map (fun i => (i.zero, i.size, i.bytes)) = some (some (.bool false), 1, 1) := by kernel_rfl
theorem Tryz.infoIn : (Tryz.prog.info? 3).map (fun i => (i.zero, i.size, i.bytes)) = some (some (.int .i64 0), 1, 8) := by kernel_rfl
theorem made_const (u : Value) (n : Nat) : (madeCells #[u] n).toList = (List.range n).map fun _ => u := by
  unfold madeCells
  rw [Array.toList_map, Array.toList_range]
  refine List.map_congr_left fun i _ => ?_
  simp [Nat.mod_one]
theorem map_flat {α : Type} (enc : α → Value) (l : List α) : l.map enc = l.flatMap (fun x => [enc x]) := by
  induction l with
  | nil => rfl
  | cons a l ih => rw [List.map_cons, List.flatMap_cons, ih]; rfl
/-- of each place: is it somebody's parent, of the first k? -/
def innTo (P : List Int) (k : Nat) : List Bool := (List.range P.length).map fun (u : Nat) => decide ((u : Int) ∈ P.take k)
theorem innTo_enc (P : List Int) (k : Nat) : (innTo P k).flatMap encB = (List.range P.length).map fun (u : Nat) => Value.bool (decide ((u : Int) ∈ P.take k)) := by
  unfold innTo
  show List.flatMap (fun x => [Value.bool x]) _ = _
  rw [← map_flat Value.bool, List.map_map]; rfl
theorem innTo_len (P : List Int) (k : Nat) : (innTo P k).length = P.length := by simp [innTo]
set_option maxRecDepth 100000 in
set_option maxHeartbeats 1000000 in
theorem inner_any (w : World) (v : Value) (P : List Int) (h : RdL w v 1 encI P) (ht : treeB P = true) (h32 : P.length ≤ 1000) :
    Calls Tryz.prog 106 #[v] w fun e w' => ∃ v', e = .returned v' ∧ RdL w' v' 1 encB (innTo P P.length) ∧ Below w.heap.size w w' := by
  obtain ⟨i0, hi, hz0, hz1, hz2⟩ := info_parts Tryz.infoBool
  obtain ⟨A, cap, rfl, l1, l2, hr⟩ := h
  have HR := Lib.hid hr
  have HT := Lib.hid ht
  clear hr ht
  go_enter Tryz.func106, Tryz.ntmps106
  go_wp2_with (refine wpList_make_full _ rfl (.tmp 7) (.tmp 7) 210 rfl w.heap.size 4 i0 (.bool false) 1 Tryz.underlying210 hi hz0 hz1 .i64 .i64 P.length P.length P.length rfl rfl rfl rfl ?b2 ?b3 (Nat.le_refl _) ?_)
  case b2 => rw [hz2]; omega
  case b3 => unfold maxLen; omega
  intro w1 hown hg
  have hown1 : w1.ownsRow w.heap.size 4 1 (.slice (some ⟨w.heap.size, 0, none⟩) P.length P.length) P.length ((innTo P 0).flatMap encB) := by
    rw [innTo_enc]
    have e : (madeCells #[Value.bool false] P.length).toList = (List.range P.length).map fun (u : Nat) => Value.bool (decide ((u : Int) ∈ P.take 0)) := by
      rw [made_const]
      refine List.map_congr_left fun i _ => by simp
    rw [e] at hown; exact hown
  have hb1 : Below w.heap.size w w1 := (Below.refl w.heap.size w).grown hg (Nat.le_refl _) (fun j hj => by cases hj)
  clear hown hg
  go_wp2
  go_loopw [11] (fun i wr => ∃ k : Nat, i = .int .i64 k ∧ k ≤ P.length ∧ wr.ownsRow w.heap.size 4 1 (.slice (some ⟨w.heap.size, 0, none⟩) P.length P.length) P.length ((innTo P k).flatMap encB) ∧ Below w.heap.size w wr) (fun i _ => P.length - (intOf i).toNat)
  case atStart => exact ⟨0, rfl, by omega, hown1, hb1⟩
  case round =>
    clear hown1 hb1
    obtain ⟨k, rfl, hk, hown, hbel⟩ := hrel
    by_cases hlt : k < P.length
    · obtain ⟨bl, off, rfl, hbl, hc⟩ := HR.out (by omega)
      obtain ⟨p, hp⟩ := getElem?_lt hlt
      have c0 := (hbel.cell (p := ⟨bl, off + k * 1 + 0, none⟩) hbl).trans (hc k p hp 0 _ rfl)
      simp only [Nat.add_zero, Nat.mul_one] at c0
      have hpl := tree_lt HT.out hp
      have HP := Lib.hid hp
      clear hc hp
      by_cases h0 : 0 ≤ p
      · have f0 := hown.frozenAt p.toNat
        have g0 := hown.cellAt p.toNat (by omega)
        have hgl := (hown.lt _ rfl).2
        have hst := hown.stored p.toNat (.bool true)
        have HN : Hid (∀ W : World, W.ownsRow w.heap.size 4 1 (.slice (some ⟨w.heap.size, 0, none⟩) P.length P.length) P.length (((innTo P k).flatMap encB).set p.toNat (.bool true)) → W.ownsRow w.heap.size 4 1 (.slice (some ⟨w.heap.size, 0, none⟩) P.length P.length) P.length ((innTo P (k + 1)).flatMap encB)) := Lib.hid fun W hW => by
          rw [innTo_enc] at hW ⊢
          rw [range_set P.length p.toNat _ (fun (u : Nat) => Value.bool (decide ((u : Int) ∈ P.take (k + 1)))) (.bool true) (by
            show Value.bool (decide (((p.toNat : Nat) : Int) ∈ P.take (k + 1))) = _
            rw [decide_eq_true ((mem_take HP.out _).2 (.inr (by omega)))]) (fun j hj => by
            show Value.bool (decide ((j : Int) ∈ P.take (k + 1))) = Value.bool (decide ((j : Int) ∈ P.take k))
            congr 1
            refine decide_eq_decide.2 ?_
            rw [mem_take HP.out]
            exact ⟨fun h => h.elim id (fun h => by omega), .inl⟩)] at hW
          exact hW
        obtain ⟨u, hu⟩ : ∃ u, ((innTo P k).flatMap encB)[p.toNat]? = some u := by
          rw [innTo_enc, range_get _ _ _ (by omega)]; exact ⟨_, rfl⟩
        rw [hu] at g0
        obtain ⟨m, rfl⟩ := Int.eq_ofNat_of_zero_le h0
        simp only [Int.toNat_natCast] at f0 g0 hst HN
        have HB := Lib.hid (And.intro hst hbel)
        clear hu hst hbel hown
        go_wp2
        go_roundw
        case rel => exact ⟨k + 1, by go_num, by omega, HN.out _ HB.out.1.1, HB.out.2.setCell (Nat.le_refl _) _⟩
        case measure => simp [intOf]; omega
      · have HN : Hid (innTo P (k + 1) = innTo P k) := Lib.hid (by
          unfold innTo
          refine List.map_congr_left fun u _ => decide_eq_decide.2 ?_
          rw [mem_take HP.out]
          exact ⟨fun h => h.elim id (fun h => by omega), .inl⟩)
        have HB := Lib.hid (And.intro hown hbel)
        clear hown hbel
        go_wp2
        go_roundw
        case rel => exact ⟨k + 1, by go_num, by omega, by rw [HN.out]; exact HB.out.1, HB.out.2⟩
        case measure => simp [intOf]; omega
    · obtain rfl : k = P.length := by omega
      have HB := Lib.hid (And.intro hown hbel)
      clear hown hbel
      go_wp2
      go_ret
      exact ⟨_, rfl, RdL.of_own encB_len (innTo_len P _).symm (by rw [innTo_len]; omega) HB.out.1, HB.out.2⟩
end Go.Proofs.YtagajjilccjplaaGreat
end
section
set_option linter.unusedVariables false
set_option linter.unusedSimpArgs false
/- Layer 6: topo.leaves, levels. -/
namespace Go.Proofs.YtagajjilccjplaaGreat
open Go.RowKit

theorem own_lower {w : World} {b b' : Nat} {e : TypeId} {sz : Nat} {v : Value} {n : Nat} {xs : List Value} (h : w.ownsRow b e sz v n xs) (hb : b' ≤ b) : w.ownsRow b' e sz v n xs := by
  rcases h.2 with h0 | ⟨g, cap, cur, q1, q2, q⟩
  · exact ⟨h.1, .inl h0⟩
  · exact ⟨h.1, .inr ⟨g, cap, cur, q1, Nat.le_trans hb q2, q⟩⟩
theorem own_rdl {w : World} {b : Nat} {v : Value} {l : List Int} (h : w.ownsRow b 3 1 v l.length (l.flatMap encI)) (hl : l.length ≤ 140737488355328) : RdL w v 1 encI l := RdL.of_own encI_len rfl hl h
theorem one_enc (x : Int) : ∀ u ∈ encI x, u.oneCell' = true := by simp [encI, Value.oneCell']
theorem inn_at {P : List Int} {k : Nat} (hk : k < P.length) : (innTo P P.length)[k]? = some (decide ((k : Int) ∈ P)) := by
  unfold innTo
  rw [range_get _ _ _ hk, List.take_length]
theorem leaf_nat {P : List Int} {k : Nat} (hk : k < P.length) : leafB P k = !decide ((k : Int) ∈ P) := by
  unfold leafB
  by_cases h : (k : Int) ∈ P
  · simp [h]
  · simp [h, hk]
theorem flat_snoc (l : List Int) (x : Int) : (l ++ [x]).flatMap encI = l.flatMap encI ++ encI x := by simp
set_option maxRecDepth 100000 in
set_option maxHeartbeats 1000000 in
theorem leaves_any (w : World) (v : Value) (P : List Int) (h : RdL w v 1 encI P) (ht : treeB P = true) (h32 : P.length ≤ 1000) :
    Calls Tryz.prog 79 #[v] w fun e w' => ∃ v', e = .returned v' ∧ w'.ownsRow w.heap.size 3 1 v' (leavesL P).length ((leavesL P).flatMap encI) ∧ Below w.heap.size w w' := by
  obtain ⟨i0, hi, hz0, hz1, hz2⟩ := info_parts Tryz.infoIn
  have HI := Lib.hid (And.intro hi (And.intro hz0 (And.intro hz1 hz2)))
  have HC := Lib.hid (inner_any w v P h ht h32)
  clear hi hz0 hz1 hz2 h ht
  go_enter Tryz.func79, Tryz.ntmps79
  go_wp2_with fail
  refine HC.out.mono ?_
  rintro en w1 ⟨v', rfl, hR, hb⟩
  have HB := Lib.hid hb
  have hs1 := hb.size
  clear hb
  obtain ⟨A, cap, rfl, l1, l2, hr⟩ := hR
  have HR := Lib.hid hr
  clear hr
  have hln : (innTo P P.length).length = P.length := innTo_len _ _
  rw [hln] at *
  clear hln
  go_wp2
  go_loopw [3, 9] (fun o i wr => ∃ k : Nat, i = .int .i64 k ∧ k ≤ P.length ∧ wr.ownsRow w1.heap.size 3 1 o (leavesTo P k).length ((leavesTo P k).flatMap encI) ∧ Below w1.heap.size w1 wr) (fun _ i _ => P.length - (intOf i).toNat)
  case atStart => exact ⟨0, rfl, by omega, World.ownsRow_nil _ _ _ _, Below.refl _ _⟩
  case round =>
    obtain ⟨k, rfl, hk, hown, hbel⟩ := hrel
    by_cases hlt : k < P.length
    · obtain ⟨bl, off, rfl, hbl, hc⟩ := HR.out (by rw [innTo_len]; omega)
      have c0 := (hbel.cell (p := ⟨bl, off + k * 1 + 0, none⟩) hbl).trans (hc k _ (inn_at hlt) 0 _ rfl)
      simp only [Nat.add_zero, Nat.mul_one] at c0
      have hll := leavesTo_len P k
      have hsz := hbel.size
      have HS := Lib.hid (leavesTo_succ P k)
      have HL := Lib.hid (leaf_nat hlt)
      have HO := Lib.hid (And.intro hown hbel)
      obtain ⟨A9, c9, rfl⟩ := own_form hown
      clear hc hbel
      cases hm : decide ((k : Int) ∈ P)
      · rw [hm] at c0
        have HM := Lib.hid hm
        clear hm
        go_wp2_with (at_builtin; refine wpList_append_own _ rfl _ _ 28 rfl w1.heap.size 3 i0 (.int .i64 0) 1 8 Tryz.underlying28 HI.out.1 HI.out.2.1 HI.out.2.2.1 HI.out.2.2.2 rfl (by decide) _ _ _ rfl (hown.alloc _) ⟨wr.heap.size, 0, none⟩ 1 1 (encI k) rfl rfl (cell_one_new _ _ _) (one_enc _) ?c3 ?c4 ?c5 ?_)
        case c3 => unfold maxLen; omega
        case c4 => omega
        case c5 => simp; omega
        intro v' w' hown' hgrow hnil
        have HN := Lib.hid (And.intro hown' hgrow)
        clear hown' hgrow hnil hown
        go_wp2
        go_roundw
        case rel => exact ⟨k + 1, by go_num, by omega, by rw [HS.out, HL.out, HM.out]; simp only [Bool.not_false, if_true]; rw [flat_snoc, List.length_append]; exact HN.out.1, (HO.out.2.alloc hsz _).grown HN.out.2 (by simp; omega) (fun j hj => (HO.out.1.lt j hj).1)⟩
        case measure => simp [intOf]; omega
      · rw [hm] at c0
        have HM := Lib.hid hm
        clear hm hown
        go_wp2
        go_roundw
        case rel => exact ⟨k + 1, by go_num, by omega, by rw [HS.out, HL.out, HM.out]; exact HO.out.1, HO.out.2⟩
        case measure => simp [intOf]; omega
    · obtain rfl : k = P.length := by omega
      have hll := leavesTo_len P P.length
      have HO := Lib.hid (And.intro hown hbel)
      clear hown hbel
      go_wp2
      go_ret
      exact ⟨_, rfl, own_lower HO.out.1 hs1, HB.out.trans (HO.out.2.mono hs1)⟩

/-- how deep each place is, as far as the first k are reckoned -/
def levTo (P : List Int) (k : Nat) : List Int := (List.range P.length).map fun (u : Nat) => if u < k then ((depL P u : Nat) : Int) else 0
def levL (P : List Int) : List Int := (List.range P.length).map fun (u : Nat) => ((depL P u : Nat) : Int)
theorem levTo_len (P : List Int) (k : Nat) : (levTo P k).length = P.length := by simp [levTo]
theorem levTo_all (P : List Int) : levTo P P.length = levL P := by
  unfold levTo levL
  exact List.map_congr_left fun u hu => if_pos (List.mem_range.1 hu)
theorem flatI (l : List Int) : l.flatMap encI = l.map (Value.int .i64) := (map_flat _ _).symm
theorem levTo_set (P : List Int) (k : Nat) (x : Int) (hx : x = ((depL P k : Nat) : Int)) : ((levTo P k).flatMap encI).set k (.int .i64 x) = (levTo P (k + 1)).flatMap encI := by
  rw [flatI, flatI]
  unfold levTo
  rw [List.map_map, List.map_map]
  refine range_set P.length k _ _ _ ?_ fun j hj => ?_
  · show Value.int .i64 (if k < k + 1 then _ else _) = _
    rw [if_pos (by omega), hx]
  · show Value.int .i64 (if j < k + 1 then _ else _) = Value.int .i64 (if j < k then _ else _)
    by_cases h : j < k
    · rw [if_pos h, if_pos (by omega)]
    · rw [if_neg h, if_neg (by omega)]
theorem levTo_get (P : List Int) (k m : Nat) (hm : m < k) (hk : k ≤ P.length) : ((levTo P k).flatMap encI)[m]? = some (.int .i64 ((depL P m : Nat) : Int)) := by
  rw [flatI]
  unfold levTo
  rw [List.map_map, range_get _ _ _ (by omega)]
  show some (Value.int .i64 (if m < k then _ else _)) = _
  rw [if_pos hm]
set_option maxRecDepth 100000 in
set_option maxHeartbeats 1000000 in
theorem levels_any (w : World) (v : Value) (P : List Int) (h : RdL w v 1 encI P) (ht : treeB P = true) (h32 : P.length ≤ 1000) :
    Calls Tryz.prog 80 #[v] w fun e w' => ∃ v', e = .returned v' ∧ w'.ownsRow w.heap.size 3 1 v' (levL P).length ((levL P).flatMap encI) ∧ Below w.heap.size w w' := by
  obtain ⟨i0, hi, hz0, hz1, hz2⟩ := info_parts Tryz.infoIn
  obtain ⟨A, cap, rfl, l1, l2, hr⟩ := h
  have HR := Lib.hid hr
  have HT := Lib.hid ht
  clear hr ht
  go_enter Tryz.func80, Tryz.ntmps80
  go_wp2_with (refine wpList_make_full _ rfl (.tmp 7) (.tmp 7) 28 rfl w.heap.size 3 i0 (.int .i64 0) 1 Tryz.underlying28 hi hz0 hz1 .i64 .i64 P.length P.length P.length rfl rfl rfl rfl ?b2 ?b3 (Nat.le_refl _) ?_)
  case b2 => rw [hz2]; omega
  case b3 => unfold maxLen; omega
  intro w1 hown hg
  have hown1 : w1.ownsRow w.heap.size 3 1 (.slice (some ⟨w.heap.size, 0, none⟩) P.length P.length) P.length ((levTo P 0).flatMap encI) := by
    have e : (madeCells #[Value.int .i64 0] P.length).toList = (levTo P 0).flatMap encI := by
      rw [made_const, flatI]
      unfold levTo
      rw [List.map_map]
      exact List.map_congr_left fun i _ => rfl
    rw [e] at hown; exact hown
  have hb1 : Below w.heap.size w w1 := (Below.refl w.heap.size w).grown hg (Nat.le_refl _) (fun j hj => by cases hj)
  clear hown hg hi hz0 hz1 hz2
  go_wp2
  go_loopw [11] (fun i wr => ∃ k : Nat, i = .int .i64 k ∧ k ≤ P.length ∧ wr.ownsRow w.heap.size 3 1 (.slice (some ⟨w.heap.size, 0, none⟩) P.length P.length) P.length ((levTo P k).flatMap encI) ∧ Below w.heap.size w wr) (fun i _ => P.length - (intOf i).toNat)
  case atStart => exact ⟨0, rfl, by omega, hown1, hb1⟩
  case round =>
    clear hown1 hb1
    obtain ⟨k, rfl, hk, hown, hbel⟩ := hrel
    by_cases hlt : k < P.length
    · obtain ⟨bl, off, rfl, hbl, hc⟩ := HR.out (by omega)
      obtain ⟨p, hp⟩ := getElem?_lt hlt
      have c0 := (hbel.cell (p := ⟨bl, off + k * 1 + 0, none⟩) hbl).trans (hc k p hp 0 _ rfl)
      simp only [Nat.add_zero, Nat.mul_one] at c0
      have hpl := tree_lt HT.out hp
      have hds := depL_step HT.out hp
      have hdb := depL_le P p
      have HP := Lib.hid hp
      clear hc hp
      have f0 := hown.frozenAt k
      have g0 := hown.cellAt k (by omega)
      have hgl := (hown.lt _ rfl).2
      obtain ⟨u, hu⟩ : ∃ u, ((levTo P k).flatMap encI)[k]? = some u := by
        rw [flatI]
        unfold levTo
        rw [List.map_map, range_get _ _ _ (by omega)]; exact ⟨_, rfl⟩
      rw [hu] at g0
      clear hu
      have hne : bl ≠ w.heap.size := by omega
      by_cases h0 : 0 ≤ p
      · rw [if_pos h0] at hds
        obtain ⟨m, rfl⟩ := Int.eq_ofNat_of_zero_le h0
        have g1 := hown.cellAt m (by omega)
        rw [levTo_get P k m (by omega) hk] at g1
        have hst := (hown.stored k (.int .i64 1)).1.stored k (.int .i64 (((depL P m : Nat) : Int) + 1))
        have HN := Lib.hid (levTo_set P k (((depL P m : Nat) : Int) + 1) (by rw [hds]; omega))
        have HB := Lib.hid (And.intro hst hbel)
        clear hst hbel hown hds
        go_wp2
        go_roundw
        case rel => exact ⟨k + 1, by go_num, by omega, by have := HB.out.1.1; rw [List.set_set, HN.out] at this; exact this, (HB.out.2.setCell (Nat.le_refl _) _).setCell (Nat.le_refl _) _⟩
        case measure => simp [intOf]; omega
      · rw [if_neg h0] at hds
        have hst := hown.stored k (.int .i64 1)
        have HN := Lib.hid (levTo_set P k 1 (by rw [hds]; rfl))
        have HB := Lib.hid (And.intro hst hbel)
        clear hst hbel hown hds
        go_wp2
        go_roundw
        case rel => exact ⟨k + 1, by go_num, by omega, by have := HB.out.1.1; rw [HN.out] at this; exact this, HB.out.2.setCell (Nat.le_refl _) _⟩
        case measure => simp [intOf]; omega
    · obtain rfl : k = P.length := by omega
      have HB := Lib.hid (And.intro hown hbel)
      clear hown hbel
      go_wp2
      go_ret
      exact ⟨_, rfl, by rw [← levTo_all, levTo_len]; exact HB.out.1, HB.out.2⟩
end Go.Proofs.YtagajjilccjplaaGreat
end
section
set_option linter.unusedVariables false
set_option linter.unusedSimpArgs false
/- Layer 6: even trees; plain data, no program in sight. -/
namespace Go.Proofs.YtagajjilccjplaaGreat
open Go.RowKit

/-- are the first leaves even? -/
def evL (P : List Int) (l : List Int) : Bool := l.all fun v => decide (depL P v = depL P (l.headD 0) ∧ depL P v ≤ 5)
theorem evenB_eq (P : List Int) : evenB P = evL P (leavesL P) := rfl
theorem evL_snoc (P : List Int) (l : List Int) (x : Int) : evL P (l ++ [x]) = (evL P l && decide (depL P x = depL P ((l ++ [x]).headD 0) ∧ depL P x ≤ 5)) := by
  unfold evL
  rw [List.all_append]
  cases l with
  | nil => simp
  | cons a l => simp
theorem evL_prefix (P : List Int) (l m : List Int) (h : evL P (l ++ m) = true) : evL P l = true := by
  unfold evL at *
  rw [List.all_append, Bool.and_eq_true] at h
  cases l with
  | nil => rfl
  | cons a l => exact h.1
theorem evL_bad {P : List Int} {l m : List Int} (h : evL P l = false) : evL P (l ++ m) = false := by
  cases he : evL P (l ++ m)
  · rfl
  · rw [evL_prefix P l m he] at h; cases h
/-- the depth of the first leaf, 0 before there is one -/
def first (P : List Int) (k : Nat) : Nat := if leavesTo P k = [] then 0 else depL P ((leavesTo P k).headD 0)
theorem mem_leavesTo {P : List Int} {k : Nat} {v : Int} (h : v ∈ leavesTo P k) : leafB P v = true ∧ 0 ≤ v ∧ v < k := by
  unfold leavesTo at h
  rw [List.mem_filter, List.mem_map] at h
  obtain ⟨⟨a, ha, rfl⟩, h2⟩ := h
  have := List.mem_range.1 ha
  exact ⟨h2, by show (0 : Int) ≤ (a : Int); omega, by show ((a : Nat) : Int) < k; omega⟩
theorem thr_any (P T : List Int) : T.any (fun x => !decide (x ∈ leavesL P)) = !thrB P T := by
  unfold thrB
  rw [List.not_all_eq_any_not]
  congr 1
  funext x
  congr 1
  cases h : leafB P x
  · exact decide_eq_false fun hm => by rw [mem_leaves.1 hm] at h; cases h
  · exact decide_eq_true (mem_leaves.2 h)
/-- what may be -/
theorem chk_ok {P T : List Int} (h : chkT P T = 0) : manyB P T = false ∧ treeB P = true ∧ evenB P = true ∧ thrB P T = true := by
  unfold chkT at h
  cases h1 : manyB P T
  · cases h2 : treeB P
    · rw [h1, h2] at h; simp at h
    · cases h3 : evenB P
      · rw [h1, h2, h3] at h; simp at h
      · cases h4 : thrB P T
        · rw [h1, h2, h3, h4] at h; simp at h
        · exact ⟨rfl, rfl, rfl, rfl⟩
  · rw [h1] at h; simp at h
theorem many_lt {P T : List Int} (h : manyB P T = false) : 1 ≤ P.length ∧ P.length ≤ 32 ∧ 1 ≤ T.length ∧ T.length ≤ 32 := by
  simp only [manyB, decide_eq_false_iff_not] at h
  omega
theorem thr_mem {P T : List Int} (h : thrB P T = true) {i : Nat} {x : Int} (hi : T[i]? = some x) : x ∈ leavesL P := by
  unfold thrB at h
  rw [List.all_eq_true] at h
  exact mem_leaves.2 (h x (List.mem_of_getElem? hi))
def lvsT (P T : List Int) : List Int := if chkT P T = 0 then leavesL P else []
end Go.Proofs.YtagajjilccjplaaGreat
end
section
set_option linter.unusedVariables false
set_option linter.unusedSimpArgs false
/- Layer 6: topo.Check. -/
namespace Go.Proofs.YtagajjilccjplaaGreat
open Go.RowKit

theorem rdl_form {α : Type} {enc : α → List Value} {sz : Nat} {w : World} {v : Value} {l : List α} (h : RdL w v sz enc l) : ∃ A c, v = .slice A l.length c ∧ l.length ≤ c ∧ l.length ≤ 140737488355328 := by
  obtain ⟨A, c, h1, h2, h3, _⟩ := h
  exact ⟨A, c, h1, h2, h3⟩
/-- one cell of a list of ints -/
theorem rdl_int {w : World} {A : Option Addr} {n c : Nat} {l : List Int} (h : RdL w (.slice A n c) 1 encI l) (hl : 0 < l.length) :
    ∃ b off, A = some ⟨b, off, none⟩ ∧ b < w.heap.size ∧ ∀ i x, l[i]? = some x → w.cell? ⟨b, off + i, none⟩ = some (.int .i64 x) := by
  obtain ⟨A', c', e, h1, h2, h3⟩ := h
  injection e with e1 e2 e3
  subst e1
  obtain ⟨b, off, q1, q2, q3⟩ := h3 hl
  refine ⟨b, off, q1, q2, fun i x hx => ?_⟩
  have := q3 i x hx 0 _ rfl
  simpa using this
theorem chk_many {P T : List Int} (h : manyB P T = true) : chkT P T = 8 := by unfold chkT; rw [if_pos h]
theorem chk_tree {P T : List Int} (h : manyB P T = false) (h2 : treeB P = false) : chkT P T = 9 := by unfold chkT; rw [h, h2]; rfl
theorem chk_even {P T : List Int} (h : manyB P T = false) (h2 : treeB P = true) (h3 : evenB P = false) : chkT P T = 9 := by unfold chkT; rw [h, h2, h3]; rfl
theorem chk_thr {P T : List Int} (h : manyB P T = false) (h2 : treeB P = true) (h3 : evenB P = true) : chkT P T = if thrB P T then 0 else 4 := by
  unfold chkT; rw [h, h2, h3]
  cases thrB P T <;> rfl
theorem lev_get {P : List Int} {v : Int} (h0 : 0 ≤ v) (h : v < P.length) : (levL P)[v.toNat]? = some ((depL P v : Nat) : Int) := by
  unfold levL
  rw [range_get _ _ _ (by omega)]
  congr 3
  omega
theorem own_below {w w' : World} {base : Nat} {e : TypeId} {sz : Nat} {v : Value} {n : Nat} {xs : List Value} (h : w.ownsRow base e sz v n xs) (k : Below w.heap.size w w') : w'.ownsRow base e sz v n xs :=
  Turns.own h (Turns.of_below (S := []) k) (fun _ _ => by simp)
theorem own_set {w : World} {base : Nat} {e : TypeId} {sz : Nat} {v : Value} {n : Nat} {xs : List Value} (h : w.ownsRow base e sz v n xs) (g : Nat) (u : Value) (hg : ∀ b, v.ownBlock = some b → b ≠ g) : (w.setCell ⟨g, 0, none⟩ u).ownsRow base e sz v n xs :=
  Turns.own h (Turns.setCell (Turns.refl [g] w) (.inl (by simp)) u) (fun b hb => by simpa using hg b hb)
theorem bcell {W w1 : World} (hb : Below W.heap.size W w1) : (∀ b o, b < W.heap.size → w1.cell? ⟨b, o, none⟩ = W.cell? ⟨b, o, none⟩) ∧ (∀ b o, b < W.heap.size → w1.frozen? ⟨b, o, none⟩ = W.frozen? ⟨b, o, none⟩) :=
  ⟨fun b o h => hb.cell (p := ⟨b, o, none⟩) h, fun b o h => hb.frozen (p := ⟨b, o, none⟩) h⟩
set_option maxRecDepth 100000 in
set_option maxHeartbeats 4000000 in
theorem check_any (w : World) (vP vT : Value) (P T : List Int) (hP : RdL w vP 1 encI P) (hT : RdL w vT 1 encI T) :
    Calls Tryz.prog 57 #[.agg #[vP, vT]] w fun e w' => e = .returned (.int .i64 (chkT P T)) ∧ Below w.heap.size w w' := by
  have HP := Lib.hid hP
  have HT := Lib.hid hT
  obtain ⟨AP, cP, rfl, lP1, lP2⟩ := rdl_form hP
  obtain ⟨AT, cT, rfl, lT1, lT2⟩ := rdl_form hT
  clear hP hT
  have hb0 : Below w.heap.size w (w.alloc (.cells #[.slice AP P.length cP, .slice AT T.length cT] 30)) := (Below.refl _ _).alloc (Nat.le_refl _) _
  have HB0 := Lib.hid hb0
  clear hb0
  go_enter Tryz.func57, Tryz.ntmps57
  go_upto_region 1 with fail
  go_quiet (fail)
  have c0 : ((w.alloc (.cells #[.slice AP P.length cP, .slice AT T.length cT] 30)).drewN nq).cell? ⟨w.heap.size, 0, none⟩ = some (.slice AP P.length cP) := by simp [World.cell?_alloc_new]
  have c1 : ((w.alloc (.cells #[.slice AP P.length cP, .slice AT T.length cT] 30)).drewN nq).cell? ⟨w.heap.size, 1, none⟩ = some (.slice AT T.length cT) := by simp [World.cell?_alloc_new]
  have hsz : w.heap.size + 1 ≤ ((w.alloc (.cells #[.slice AP P.length cP, .slice AT T.length cT] 30)).drewN nq).heap.size := by simp [World.drewN]
  have hbb := below_drewN HB0.out nq
  clear HB0
  generalize ((w.alloc (.cells #[.slice AP P.length cP, .slice AT T.length cT] 30)).drewN nq) = wb at *
  have HB := Lib.hid hbb
  have HC := Lib.hid (And.intro c0 c1)
  have HPb := Lib.hid (HP.out.below hbb (Nat.le_refl _))
  have HTb := Lib.hid (HT.out.below hbb (Nat.le_refl _))
  clear hbb HP HT
  by_cases a1 : P.length < 1
  · have HE := Lib.hid (chk_many (P := P) (T := T) (decide_eq_true (.inl a1)))
    go_wp2
    go_ret
    exact ⟨ret_int HE.out.symm, HB.out⟩
  by_cases a2 : 32 < P.length
  · have HE := Lib.hid (chk_many (P := P) (T := T) (decide_eq_true (.inr (.inl a2))))
    go_wp2
    go_ret
    exact ⟨ret_int HE.out.symm, HB.out⟩
  by_cases a3 : T.length < 1
  · have HE := Lib.hid (chk_many (P := P) (T := T) (decide_eq_true (.inr (.inr (.inl a3)))))
    go_wp2
    go_ret
    exact ⟨ret_int HE.out.symm, HB.out⟩
  by_cases a4 : 32 < T.length
  · have HE := Lib.hid (chk_many (P := P) (T := T) (decide_eq_true (.inr (.inr (.inr a4)))))
    go_wp2
    go_ret
    exact ⟨ret_int HE.out.symm, HB.out⟩
  have HM := Lib.hid (show manyB P T = false from decide_eq_false (by omega))
  cases htr : treeB P
  · have HE := Lib.hid (chk_tree HM.out htr)
    have HQ := Lib.hid (tree_any wb _ P HPb.out)
    rw [htr] at HQ
    clear htr
    go_wp2_with (go_at_call 78; refine HQ.out.mono ?_; rintro e w' ⟨rfl, rfl⟩)
    go_ret
    exact ⟨ret_int HE.out.symm, HB.out⟩
  have HQ := Lib.hid (tree_any wb _ P HPb.out)
  rw [htr] at HQ
  have HTR := Lib.hid htr
  clear htr
  have bd : Below wb.heap.size wb wb.drew := (Below.refl _ _).drew
  go_upto_region 4 with fail
  go_wp2_with (go_at_call 78; refine HQ.out.mono ?_; rintro e w' ⟨rfl, rfl⟩)
  go_cut [5, 6] (fun s5 s6 wx => ∃ g v5, s5 = .pointer (some ⟨g, 0, none⟩) ∧ wb.heap.size ≤ g ∧ wx.cell? ⟨g, 0, none⟩ = some v5 ∧ wx.ownsRow wb.heap.size 3 1 v5 (leavesL P).length ((leavesL P).flatMap encI) ∧ wx.ownsRow wb.heap.size 3 1 s6 (levL P).length ((levL P).flatMap encI) ∧ Below wb.heap.size wb wx)
  case first =>
    go_region_held3 (fun W => W.cell? ⟨w.heap.size, 0, none⟩ = some (.slice AP P.length cP))
      (first | exact c0 | exact (bd.cell (p := ⟨w.heap.size, 0, none⟩) (show w.heap.size < wb.heap.size by omega)).trans c0 | exact (k3.cell (p := ⟨w.heap.size, 0, none⟩) (show w.heap.size < wb.heap.size by omega)).trans c0 | exact (k2.cell (p := ⟨w.heap.size, 0, none⟩) (show w.heap.size < wb.heap.size by omega)).trans c0 | exact ((k2.alloc k2.size _).cell (p := ⟨w.heap.size, 0, none⟩) (show w.heap.size < wb.heap.size by omega)).trans c0 | exact (((Below.refl wb.heap.size wb).alloc (Nat.le_refl _) _).cell (p := ⟨w.heap.size, 0, none⟩) (show w.heap.size < wb.heap.size by omega)).trans c0 | exact ((((Below.refl wb.heap.size wb).alloc (Nat.le_refl _) _).drew).cell (p := ⟨w.heap.size, 0, none⟩) (show w.heap.size < wb.heap.size by omega)).trans c0 | exact ((k3.setCell (by first | exact k2.size | exact Nat.le_refl _) _).cell (p := ⟨w.heap.size, 0, none⟩) (show w.heap.size < wb.heap.size by omega)).trans c0 | exact ((k3.alloc k3.size _).cell (p := ⟨w.heap.size, 0, none⟩) (show w.heap.size < wb.heap.size by omega)).trans c0 | (simp [*]; done))
      (first
        | (go_at_call 79; go_loud (refine (leaves_any _ _ P (HPb.out.below (B := wb.heap.size) (by first | exact bd | exact bd.alloc (Nat.le_refl _) _) (Nat.le_refl _)) HTR.out (by omega)).mono ?_); rintro e w2 ⟨v2, rfl, o2, b2⟩; obtain ⟨A2, c2, rfl⟩ := own_form o2; (have k2 : Below wb.heap.size wb w2 := (by first | exact bd.trans (b2.mono (by simp)) | exact (bd.alloc (Nat.le_refl _) _).trans (b2.mono (by simp)))); have hc2 := (bcell b2).1; have hf2 := (bcell b2).2; have O2 := Lib.hid o2; (first | have hz2 : wb.heap.size < w2.heap.size := (by have := b2.size; simp at this; omega) | have hz2 := k2.size))
        | (go_at_call 80; go_loud (refine (levels_any _ _ P (HPb.out.below (B := wb.heap.size) (by first | exact k2 | exact k2.alloc k2.size _ | exact k2.setCell (by simp) _ | exact (k2.alloc k2.size _).setCell (by simp) _) (Nat.le_refl _)) HTR.out (by omega)).mono ?_); rintro e w3 ⟨v3, rfl, o3, b3⟩; have hc3 := (bcell b3).1; have hf3 := (bcell b3).2; have O3 := Lib.hid o3; (have k3 : Below wb.heap.size wb w3 := (by first | exact k2.trans (b3.mono k2.size) | exact (k2.alloc k2.size _).trans (b3.mono (by simp; have := k2.size; omega))))))
    · have hs3 := b3.size
      have e2 := own_lower ((own_below O2.out b3).alloc (.cells #[.slice A2 (leavesL P).length c2] 28)) (b' := wb.heap.size) (by simp)
      have e3 := own_lower (O3.out.alloc (.cells #[.slice A2 (leavesL P).length c2] 28)) (b' := wb.heap.size) k2.size
      have e4 := (k2.trans (b3.mono k2.size)).alloc (Nat.le_trans k2.size b3.size) (.cells #[.slice A2 (leavesL P).length c2] 28)
      have HH := Lib.hid (And.intro e2 (And.intro e3 e4))
      clear e2 e3 e4
      go_wp2_with fail
      go_meet
      case rel => exact ⟨_, _, rfl, Nat.le_trans k2.size hs3, by simp [World.cell?_alloc_new], HH.out.1, HH.out.2.1, HH.out.2.2⟩
    · have hs3 := b3.size
      have e2 := own_lower (own_set (own_below (O2.out.alloc (.cells #[.slice none 0 0] 28)) b3) w2.heap.size (.slice A2 (leavesL P).length c2) (fun b hb => by have := (O2.out.lt b hb).2; omega)) (b' := wb.heap.size) (by simp)
      have e3 := own_lower (own_set O3.out w2.heap.size (.slice A2 (leavesL P).length c2) (fun b hb => by have := (O3.out.lt b hb).1; simp at this; omega)) (b' := wb.heap.size) (by simp; have := k2.size; omega)
      have e4 := ((k2.alloc k2.size (.cells #[.slice none 0 0] 28)).trans (b3.mono (by simp; have := k2.size; omega))).setCell (p := ⟨w2.heap.size, 0, none⟩) k2.size (.slice A2 (leavesL P).length c2)
      have HH := Lib.hid (And.intro e2 (And.intro e3 e4))
      clear e2 e3 e4
      go_wp2_with fail
      go_meet
      case rel => exact ⟨_, _, rfl, k2.size, World.cell?_setCell_same (u := .slice none 0 0) _ _ _ (by rw [hc3 _ _ (by simp)]; simp [World.cell?_alloc_new]), HH.out.1, HH.out.2.1, HH.out.2.2⟩
    · have hs3 := b3.size
      have e2 := own_lower (own_set (own_below O2.out b3) wb.heap.size (.slice A2 (leavesL P).length c2) (fun b hb => by have := (O2.out.lt b hb).1; simp at this; omega)) (b' := wb.heap.size) (by simp)
      have e3 := own_lower (own_set O3.out wb.heap.size (.slice A2 (leavesL P).length c2) (fun b hb => by have := (O3.out.lt b hb).1; omega)) (b' := wb.heap.size) k2.size
      have e4 := (k2.trans (b3.mono k2.size)).setCell (p := ⟨wb.heap.size, 0, none⟩) (Nat.le_refl _) (.slice A2 (leavesL P).length c2)
      have HH := Lib.hid (And.intro e2 (And.intro e3 e4))
      clear e2 e3 e4
      go_wp2_with fail
      go_meet
      case rel => exact ⟨_, _, rfl, Nat.le_refl _, World.cell?_setCell_same (u := .slice none 0 0) _ _ _ (by rw [hc3 _ _ (by omega), hc2 _ _ (by simp)]; simp [World.cell?_alloc_new]), HH.out.1, HH.out.2.1, HH.out.2.2⟩
  case rest =>
    clear HPb HQ bd c0 c1
    obtain ⟨g, v5, rfl, hg, hg5, o5, o6, bc⟩ := hcut
    have hll := leavesTo_len P P.length
    have hl5 : (leavesL P).length ≤ 32 := by show (leavesTo P P.length).length ≤ _; omega
    have hl6 : (levL P).length = P.length := by simp [levL]
    have R5 := own_rdl o5 (by omega)
    have R6 := own_rdl o6 (by omega)
    have HR5 := Lib.hid R5
    obtain ⟨A5, c5, rfl, k5, _⟩ := rdl_form R5
    obtain ⟨A6, c6, rfl, k6, _⟩ := rdl_form R6
    have f0 := (bc.cell (p := ⟨w.heap.size, 0, none⟩) (show w.heap.size < wb.heap.size by omega)).trans HC.out.1
    have f1 := (bc.cell (p := ⟨w.heap.size, 1, none⟩) (show w.heap.size < wb.heap.size by omega)).trans HC.out.2
    have HTc := Lib.hid (HTb.out.below bc (Nat.le_refl _))
    have HBc := Lib.hid (HB.out.trans (bc.mono HB.out.size))
    have H56 := Lib.hid (And.intro R5 R6)
    clear R5 R6 o5 o6 bc HTb HB HC
    go_wp2
    go_loopw [41] (fun i wr => ∃ j m : Nat, i = .int .i64 j ∧ j ≤ (leavesL P).length ∧ evL P ((leavesL P).take j) = true ∧ wr = wc.drewN m) (fun i _ => (leavesL P).length - (intOf i).toNat)
    case atStart => exact ⟨0, 0, rfl, by omega, rfl, rfl⟩
    case round =>
      obtain ⟨j, mm, rfl, hj, hev, rfl⟩ := hrel
      by_cases hjl : j < (leavesL P).length
      · obtain ⟨b5, off5, hA5, hb5, hc5⟩ := rdl_int H56.out.1 (by omega)
        obtain ⟨b6, off6, hA6, hb6, hc6⟩ := rdl_int H56.out.2 (by rw [hl6]; omega)
        subst hA5 hA6
        obtain ⟨x, hx⟩ := getElem?_lt hjl
        obtain ⟨y, hy⟩ := getElem?_lt (show 0 < (leavesL P).length by omega)
        have hxl := mem_leavesTo (P := P) (k := P.length) (List.mem_of_getElem? hx)
        have hyl := mem_leavesTo (P := P) (k := P.length) (List.mem_of_getElem? hy)
        obtain ⟨x, rfl⟩ := Int.eq_ofNat_of_zero_le hxl.2.1
        obtain ⟨y, rfl⟩ := Int.eq_ofNat_of_zero_le hyl.2.1
        have q1 := hc5 j _ hx
        have q2 := hc5 0 _ hy
        have q3 := hc6 x _ (by have := lev_get (P := P) hxl.2.1 hxl.2.2; simpa using this)
        have q4 := hc6 y _ (by have := lev_get (P := P) hyl.2.1 hyl.2.2; simpa using this)
        simp only [Nat.add_zero] at q2
        have hx32 : x < P.length := by have := hxl.2.2; omega
        have hy32 : y < P.length := by have := hyl.2.2; omega
        have htk : (leavesL P).take (j + 1) = (leavesL P).take j ++ [(x : Int)] := take_succ_of hx
        have hhd : ((leavesL P).take j ++ [(x : Int)]).headD 0 = (y : Int) := by
          rw [← htk]
          cases hl : leavesL P with
          | nil => rw [hl] at hy; cases hy
          | cons a l => rw [hl] at hy; simp at hy; simp [hy]
        have hev2 := evL_snoc P ((leavesL P).take j) x
        rw [hev, Bool.true_and, hhd, ← htk] at hev2
        obtain ⟨d, hd⟩ : ∃ d : Int, d = ((depL P x : Nat) : Int) := ⟨_, rfl⟩
        obtain ⟨d0, hd0⟩ : ∃ d : Int, d = ((depL P y : Nat) : Int) := ⟨_, rfl⟩
        rw [← hd] at q3
        rw [← hd0] at q4
        have HV := Lib.hid (And.intro hev2 (And.intro hd hd0))
        have hbd : evL P ((leavesL P).take (j + 1)) = false → evenB P = false := fun h => by
          have := evL_bad (m := (leavesL P).drop (j + 1)) h
          rwa [List.take_append_drop] at this
        have HBD := Lib.hid hbd
        clear hx hy hxl hyl htk hhd hev2 hd hd0 hev hc5 hc6 hbd
        cases e1 : (d != d0)
        · cases e2 : decide (5 < d)
          · have HN := Lib.hid (show evL P ((leavesL P).take (j + 1)) = true from by
              rw [HV.out.1]
              have := HV.out.2
              simp only [bne_eq_false_iff_eq, decide_eq_false_iff_not] at e1 e2
              exact decide_eq_true (by omega))
            go_wp2_with fail
            go_quiet (fail)
            go_wp2
            go_roundw
            case rel => exact ⟨j + 1, _, by go_num, by omega, HN.out, rfl⟩
            case measure => simp [intOf]; omega
          · have HN := Lib.hid (chk_even (T := T) HM.out HTR.out (HBD.out (by
              rw [HV.out.1]
              have := HV.out.2
              simp only [decide_eq_true_eq] at e2
              exact decide_eq_false (by omega))))
            go_wp2_with fail
            go_quiet (fail)
            go_wp2
            go_ret
            exact ⟨ret_int HN.out.symm, below_drewN (below_drewN HBc.out _) _⟩
        · have HN := Lib.hid (chk_even (T := T) HM.out HTR.out (HBD.out (by
            rw [HV.out.1]
            have := HV.out.2
            simp only [bne_iff_ne] at e1
            exact decide_eq_false (by omega))))
          go_wp2_with fail
          go_quiet (fail)
          go_wp2
          go_ret
          exact ⟨ret_int HN.out.symm, below_drewN (below_drewN HBc.out _) _⟩
      · obtain rfl : j = (leavesL P).length := by omega
        rw [List.take_length, ← evenB_eq] at hev
        have HN := Lib.hid (chk_thr (T := T) HM.out HTR.out hev)
        have hcf := containsFunc_any (wc.drewN mm) g _ _ (leavesL P) T (show (wc.drewN mm).cell? ⟨g, 0, none⟩ = _ from hg5) (H56.out.1.drewN mm) (HTc.out.drewN mm)
        rw [thr_any] at hcf
        clear hev
        cases hth : thrB P T
        · rw [hth] at hcf HN
          have HC := Lib.hid hcf
          clear hcf hth
          go_wp2_with (go_at_call 81; refine HC.out.mono ?_; rintro e w' ⟨rfl, rfl⟩)
          go_ret
          exact ⟨ret_int HN.out.symm, below_drewN HBc.out _⟩
        · rw [hth] at hcf HN
          have HC := Lib.hid hcf
          clear hcf hth
          go_wp2_with (go_at_call 81; refine HC.out.mono ?_; rintro e w' ⟨rfl, rfl⟩)
          go_ret
          exact ⟨ret_int HN.out.symm, below_drewN HBc.out _⟩

theorem tleaves_any (w : World) (vP vT : Value) (P T : List Int) (hP : RdL w vP 1 encI P) (hT : RdL w vT 1 encI T) :
    Calls Tryz.prog 130 #[.agg #[vP, vT]] w fun e w' => ∃ v, e = .returned v ∧ w'.ownsRow w.heap.size 3 1 v (lvsT P T).length ((lvsT P T).flatMap encI) ∧ Below w.heap.size w w' := by
  have hb0 : Below w.heap.size w (w.alloc (.cells #[vP, vT] 30)) := (Below.refl _ _).alloc (Nat.le_refl _) _
  have HC := Lib.hid (check_any (w.alloc (.cells #[vP, vT] 30)) vP vT P T (hP.alloc _) (hT.alloc _))
  have HP := Lib.hid hP
  have HB0 := Lib.hid hb0
  obtain ⟨AP, cP, rfl, lP1, lP2⟩ := rdl_form hP
  obtain ⟨AT, cT, rfl, lT1, lT2⟩ := rdl_form hT
  clear hP hT hb0
  go_enter Tryz.func130, Tryz.ntmps130
  by_cases hc : chkT P T = 0
  · have HL := Lib.hid (show lvsT P T = leavesL P from by unfold lvsT; rw [if_pos hc])
    obtain ⟨hm, ht, _, _⟩ := chk_ok hc
    have hml := many_lt hm
    have HT := Lib.hid ht
    rw [hc] at HC
    clear hc hm ht
    go_wp2_with fail
    refine HC.out.mono ?_
    rintro en w1 ⟨rfl, b1⟩
    have hc1 := (bcell b1).1
    have hs1 := b1.size
    simp at hs1
    have HB1 := Lib.hid (HB0.out.trans (b1.mono HB0.out.size))
    clear b1
    go_wp2_with fail
    refine (leaves_any _ _ P (HP.out.below HB1.out (Nat.le_refl _)) HT.out (by omega)).mono ?_
    rintro en w2 ⟨v2, rfl, o2, b2⟩
    have HO := Lib.hid (And.intro o2 b2)
    clear o2 b2
    go_wp2
    go_ret
    exact ⟨_, rfl, by rw [HL.out]; exact own_lower HO.out.1 (by omega), HB1.out.trans (HO.out.2.mono (by omega))⟩
  · have HL := Lib.hid (show lvsT P T = [] from by unfold lvsT; rw [if_neg hc])
    obtain ⟨z, hz⟩ : ∃ z, z = chkT P T := ⟨_, rfl⟩
    rw [← hz] at HC hc
    have hz0 : (z != 0) = true := by simpa using hc
    clear hc hz
    go_wp2_with fail
    refine HC.out.mono ?_
    rintro en w1 ⟨rfl, b1⟩
    have HB1 := Lib.hid (HB0.out.trans (b1.mono HB0.out.size))
    clear b1
    go_wp2
    go_ret
    exact ⟨_, rfl, by rw [HL.out]; exact World.ownsRow_nil _ _ _ _, HB1.out⟩
end Go.Proofs.YtagajjilccjplaaGreat
end
section
set_option linter.unusedVariables false
set_option linter.unusedSimpArgs false
/- sync.Once, one goroutine: the parts (after the guide's own Lazy texts). -/
namespace Go.Proofs.YtagajjilccjplaaGreat
open Go.RowKit

theorem race_off (w : World) : (callFunc 160 #[]).run Tryz.prog w = .ok (.value (.tuple #[])) w := run_call_mark0 Tryz.func160 (by kernel_rfl) (by kernel_rfl) (by kernel_rfl) .disable (by kernel_rfl) w
theorem race_on (w : World) : (callFunc 162 #[]).run Tryz.prog w = .ok (.value (.tuple #[])) w := run_call_mark0 Tryz.func162 (by kernel_rfl) (by kernel_rfl) (by kernel_rfl) .enable (by kernel_rfl) w
theorem race_acquire (a : Addr) (w : World) : (callFunc 163 #[.pointer (some a)]).run Tryz.prog w = .ok (.value (.tuple #[])) w := run_call_marked Tryz.func163 (by kernel_rfl) (by kernel_rfl) (by kernel_rfl) .acquire (by kernel_rfl) a w
theorem race_release (a : Addr) (w : World) : (callFunc 165 #[.pointer (some a)]).run Tryz.prog w = .ok (.value (.tuple #[])) w := run_call_marked Tryz.func165 (by kernel_rfl) (by kernel_rfl) (by kernel_rfl) .releaseMerge (by kernel_rfl) a w
set_option maxRecDepth 100000 in
theorem ilock_free (a : Addr) (w : World) (hc : w.cell? a = some (.int .i32 0)) (hz : w.frozen? a = false) :
    Calls Tryz.prog 155 #[.pointer (some a)] w fun e w' => e = .returned (.tuple #[]) ∧ w' = w.setCell a (.int .i32 1) := by
  have hd := race_off
  have he := race_on
  have ha := race_acquire
  have hcas := run_call_cas_hit (P := Tryz.prog) Tryz.func161 (by kernel_rfl) (by kernel_rfl) (by kernel_rfl) .i32 (by kernel_rfl) (y := 1) hc hz
  have hc' : (w.setCell a (.int .i32 1)).cell? a = some (.int .i32 1) := World.cell?_setCell_same w a _ hc
  have hcv := run_convert_to_unsafe (P := Tryz.prog) (src := 337) (dst := 341) Tryz.underlying337 Tryz.underlying341 (by kernel_rfl) hc'
  go_enter Tryz.func155, Tryz.ntmps155
  go_wp2
  first | (go_end0; exact ⟨rfl, rfl⟩) | exact bodyPost_ret (results_none rfl _ _ _) rfl ⟨rfl, rfl⟩ | ((simp only [Exit.inBlock, Exit.then]); exact bodyPost_ret (results_none rfl _ _ _) rfl ⟨rfl, rfl⟩)
set_option maxRecDepth 100000 in
theorem lock_free (a : Addr) (w : World) (hc : w.cell? a = some (.int .i32 0)) (hz : w.frozen? a = false) :
    Calls Tryz.prog 147 #[.pointer (some a)] w fun e w' => e = .returned (.tuple #[]) ∧ w' = w.setCell a (.int .i32 1) := by
  have HL := Lib.hid (ilock_free a w hc hz)
  go_enter Tryz.func147, Tryz.ntmps147
  go_wp2_with fail
  refine HL.out.mono ?_
  rintro e w' ⟨rfl, rfl⟩
  go_wp2
  first | (go_end0; exact ⟨rfl, rfl⟩) | exact bodyPost_ret (results_none rfl _ _ _) rfl ⟨rfl, rfl⟩ | ((simp only [Exit.inBlock, Exit.then]); exact bodyPost_ret (results_none rfl _ _ _) rfl ⟨rfl, rfl⟩)
set_option maxRecDepth 100000 in
theorem iunlock_held (a : Addr) (w : World) (hc : w.cell? a = some (.int .i32 1)) (hz : w.frozen? a = false) :
    Calls Tryz.prog 156 #[.pointer (some a)] w fun e w' => e = .returned (.tuple #[]) ∧ w' = w.setCell a (.int .i32 0) := by
  have hd := race_off
  have he := race_on
  have hr := race_release
  have hadd := run_call_add (P := Tryz.prog) Tryz.func166 (by kernel_rfl) (by kernel_rfl) (by kernel_rfl) .i32 (by kernel_rfl) (y := -1) (s := 0) hc hz (by simp [go_sem]; rfl)
  have hcv := run_convert_to_unsafe (P := Tryz.prog) (src := 337) (dst := 341) Tryz.underlying337 Tryz.underlying341 (by kernel_rfl) hc
  go_enter Tryz.func156, Tryz.ntmps156
  go_wp2
  first | (go_end0; exact ⟨rfl, rfl⟩) | exact bodyPost_ret (results_none rfl _ _ _) rfl ⟨rfl, rfl⟩ | ((simp only [Exit.inBlock, Exit.then]); exact bodyPost_ret (results_none rfl _ _ _) rfl ⟨rfl, rfl⟩)
set_option maxRecDepth 100000 in
theorem unlock_deferred (a : Addr) (u : FrameMode) (w : World) (hc : w.cell? a = some (.int .i32 1)) (hz : w.frozen? a = false) :
    CallsD Tryz.prog 148 #[.pointer (some a)] u w fun e u' w' => u' = u ∧ (e = .returned (.tuple #[]) ∧ w' = w.setCell a (.int .i32 0)) := by
  have HL := Lib.hid (iunlock_held a w hc hz)
  go_enter_d Tryz.func148, Tryz.ntmps148
  go_wp2_with fail
  refine HL.out.mono ?_
  rintro e w' ⟨rfl, rfl⟩
  go_wp2
  first | (go_end0; exact ⟨rfl, rfl⟩) | exact bodyPost_ret (results_none rfl _ _ _) rfl ⟨rfl, rfl⟩ | ((simp only [Exit.inBlock, Exit.then]); exact bodyPost_ret (results_none rfl _ _ _) rfl ⟨rfl, rfl⟩)
set_option maxRecDepth 100000 in
theorem store_deferred (a : Addr) (x : Value) (u : FrameMode) (w : World) (hc : w.cell? a = some x) (hz : w.frozen? a = false) :
    CallsD Tryz.prog 149 #[.pointer (some a), .bool true] u w fun e u' w' => u' = u ∧ (e = .returned (.tuple #[]) ∧ w' = w.drew.setCell a (.int .u32 1)) := by
  have hc' : w.drew.cell? a = some x := by go_simp
  have hz' : w.drew.frozen? a = false := by go_simp
  have hst := run_call_store (P := Tryz.prog) Tryz.func157 (by kernel_rfl) (by kernel_rfl) (by kernel_rfl) (by kernel_rfl) (k := .u32) (y := 1) hc' hz'
  go_enter_d Tryz.func149, Tryz.ntmps149
  go_wp2
  go_region_calls
  all_goals (go_end0; exact ⟨rfl, rfl⟩)
theorem bool_load (a : Addr) (n : Int) (w : World) (hc : w.cell? a = some (.int .u32 n)) : Calls Tryz.prog 128 #[.pointer (some a)] w fun e w' => e = .returned (.bool (n != 0)) ∧ w = w' := by
  have hl := run_call_load (P := Tryz.prog) Tryz.func146 (by kernel_rfl) (by kernel_rfl) (by kernel_rfl) .u32 (by kernel_rfl) hc
  go_enter Tryz.func128, Tryz.ntmps128
  go_wp2
  go_ret
  exact ⟨rfl, rfl⟩
end Go.Proofs.YtagajjilccjplaaGreat
end
section
set_option linter.unusedVariables false
set_option linter.unusedSimpArgs false
/- sync.Once, one goroutine: doSlow, Do. -/
namespace Go.Proofs.YtagajjilccjplaaGreat
open Go.RowKit
set_option linter.unusedVariables false

/-- what is left behind Do, the first time: w2 is the world behind the function's own call -/
def onceEnd (b off : Nat) (w2 : World) : World := (w2.drew.setCell ⟨b, off, none⟩ (.int .u32 1)).setCell ⟨b, off + 1, none⟩ (.int .i32 0)
/-- the once's two cells while the function runs -/
structure OnceHeld (b off : Nat) (w : World) : Prop where
  c0 : w.cell? ⟨b, off, none⟩ = some (.int .u32 0)
  c1 : w.cell? ⟨b, off + 1, none⟩ = some (.int .i32 1)
  f0 : w.frozen? ⟨b, off, none⟩ = false
  f1 : w.frozen? ⟨b, off + 1, none⟩ = false
set_option maxRecDepth 100000 in
set_option maxHeartbeats 1600000 in
theorem slow_any (b off fn : Nat) (x : Value) (w : World) (R : World → Prop) (h0 : w.cell? ⟨b, off, none⟩ = some (.int .u32 0)) (h1 : w.cell? ⟨b, off + 1, none⟩ = some (.int .i32 0))
    (f0 : w.frozen? ⟨b, off, none⟩ = false) (f1 : w.frozen? ⟨b, off + 1, none⟩ = false) (hfn : fn = 93)
    (hc : Calls Tryz.prog 93 #[x] (w.setCell ⟨b, off + 1, none⟩ (.int .i32 1)) fun e w2 => e = .returned (.tuple #[]) ∧ OnceHeld b off w2 ∧ R w2) :
    Calls Tryz.prog 129 #[.pointer (some ⟨b, off, none⟩), .func (.func fn) #[x] #[]] w fun e w' => e = .returned (.tuple #[]) ∧ ∃ w2, R w2 ∧ w' = onceEnd b off w2 := by
  subst hfn
  have HC := Lib.hid hc
  have HL := Lib.hid (bool_load ⟨b, off, none⟩ 0 (w.setCell ⟨b, off + 1, none⟩ (.int .i32 1)) ((World.cell?_setCell_other _ ⟨b, off + 1, none⟩ ⟨b, off, none⟩ _ (by simp)).trans h0))
  clear hc
  go_enter_defers Tryz.func129, Tryz.ntmps129
  go_wp2_with fail
  refine (lock_free ⟨b, off + 1, none⟩ _ h1 f1).mono ?_
  rintro e w' ⟨rfl, rfl⟩
  go_wp2_with fail
  refine HL.out.mono ?_
  rintro e w' ⟨rfl, rfl⟩
  go_wp2_with fail
  refine HC.out.mono ?_
  rintro e w2 ⟨rfl, hO, hR⟩
  have HO := Lib.hid (And.intro hO hR)
  clear hO hR
  go_wp2
  refine leaves_cons (f := 149) (args := #[.pointer (some ⟨b, off, none⟩), .bool true]) (by simp) (by simp [go_sem]) ?_
  refine (store_deferred ⟨b, off, none⟩ (.int .u32 0) .returning _ HO.out.1.c0 HO.out.1.f0).mono ?_
  rintro e u' w'' ⟨rfl, rfl, rfl⟩
  refine leaves_cons (f := 148) (args := #[.pointer (some ⟨b, off + 1, none⟩)]) (by simp [settle]) (by simp [go_sem]) ?_
  refine (unlock_deferred ⟨b, off + 1, none⟩ _ _ ?_ ?_).mono ?_
  · exact (World.cell?_setCell_other _ ⟨b, off, none⟩ ⟨b, off + 1, none⟩ _ (by simp)).trans HO.out.1.c1
  · have := HO.out.1.f1
    simp [this]
  rintro e u' w'' ⟨rfl, rfl, rfl⟩
  have HE : ∃ w3, R w3 ∧ (w2.drew.setCell ⟨b, off, none⟩ (.int .u32 1)).setCell ⟨b, off + 1, none⟩ (.int .i32 0) = onceEnd b off w3 := ⟨w2, HO.out.2, rfl⟩
  simp [Leaves, settle, results, Tryz.results129]
  exact HE
set_option maxRecDepth 100000 in
theorem do_first (b off : Nat) (x : Value) (w : World) (R : World → Prop) (h0 : w.cell? ⟨b, off, none⟩ = some (.int .u32 0)) (h1 : w.cell? ⟨b, off + 1, none⟩ = some (.int .i32 0))
    (f0 : w.frozen? ⟨b, off, none⟩ = false) (f1 : w.frozen? ⟨b, off + 1, none⟩ = false)
    (hc : Calls Tryz.prog 93 #[x] (w.setCell ⟨b, off + 1, none⟩ (.int .i32 1)) fun e w2 => e = .returned (.tuple #[]) ∧ OnceHeld b off w2 ∧ R w2) :
    Calls Tryz.prog 92 #[.pointer (some ⟨b, off, none⟩), .func (.func 93) #[x] #[]] w fun e w' => e = .returned (.tuple #[]) ∧ ∃ w2, R w2 ∧ w' = onceEnd b off w2 := by
  have HS := Lib.hid (slow_any b off _ x w R h0 h1 f0 f1 rfl hc)
  have HL := Lib.hid (bool_load ⟨b, off, none⟩ 0 w h0)
  clear hc
  go_enter Tryz.func92, Tryz.ntmps92
  go_wp2_with fail
  refine HL.out.mono ?_
  rintro e w' ⟨rfl, rfl⟩
  go_wp2_with fail
  refine HS.out.mono ?_
  rintro e w' ⟨rfl, hR⟩
  have HR := Lib.hid hR
  clear hR
  go_wp2
  first | (go_end0; exact ⟨rfl, HR.out⟩) | exact bodyPost_ret (results_none rfl _ _ _) rfl ⟨rfl, HR.out⟩
theorem do_done (b off : Nat) (fv : Value) (w : World) (h0 : w.cell? ⟨b, off, none⟩ = some (.int .u32 1)) :
    Calls Tryz.prog 92 #[.pointer (some ⟨b, off, none⟩), fv] w fun e w' => e = .returned (.tuple #[]) ∧ w = w' := by
  have HL := Lib.hid (bool_load ⟨b, off, none⟩ 1 w h0)
  go_enter Tryz.func92, Tryz.ntmps92
  go_wp2_with fail
  refine HL.out.mono ?_
  rintro e w' ⟨rfl, rfl⟩
  go_wp2
  first | (go_end0; exact ⟨rfl, rfl⟩) | exact bodyPost_ret (results_none rfl _ _ _) rfl ⟨rfl, rfl⟩
end Go.Proofs.YtagajjilccjplaaGreat
end
section
set_option linter.unusedVariables false
set_option linter.unusedSimpArgs false
/- slices.Clone of ints; path.New. -/
namespace Go.Proofs.YtagajjilccjplaaGreat
open Go.RowKit

theorem int_cells (l : List Int) : ∀ u ∈ l.flatMap encI, u.oneCell' = true := by
  intro u hu
  rw [flatI] at hu
  obtain ⟨x, _, rfl⟩ := List.mem_map.1 hu
  rfl
theorem lit_zero (w : World) : (w.alloc (.cells #[] 3)).ownsRow w.heap.size 3 1 (.slice (some ⟨w.heap.size, 0, none⟩) 0 0) 0 [] := by
  exact ⟨rfl, .inr ⟨w.heap.size, 0, #[], rfl, Nat.le_refl _, heap_alloc_new w _, Nat.le_refl _, by simp [maxLen], rfl, rfl⟩⟩
set_option maxRecDepth 100000 in
set_option maxHeartbeats 1600000 in
theorem clone_any (w : World) (v : Value) (l : List Int) (h : RdL w v 1 encI l) (h1000 : l.length ≤ 1000) :
    Calls Tryz.prog 59 #[v] w fun e w' => ∃ v', e = .returned v' ∧ w'.ownsRow w.heap.size 3 1 v' l.length (l.flatMap encI) ∧ Below w.heap.size w w' := by
  obtain ⟨i0, hi, hz0, hz1, hz2⟩ := info_parts Tryz.infoIn
  have HI := Lib.hid (And.intro hi (And.intro hz0 (And.intro hz1 hz2)))
  clear hi hz0 hz1 hz2
  have HR := Lib.hid h
  obtain ⟨A, cap, rfl, l1, l2, hr⟩ := h
  cases A with
  | none =>
    have hl : l = [] := by
      rcases Nat.eq_zero_or_pos l.length with h0 | h0
      · exact List.eq_nil_of_length_eq_zero h0
      · obtain ⟨b, off, e, _⟩ := hr h0; cases e
    subst hl
    clear hr HR
    simp only [List.length_nil]
    have hn := Lib.run_eql_slice_nil w 28 3 none 0 cap 0 0 Tryz.underlying28
    simp only [Option.isNone] at hn
    go_enter Tryz.func59, Tryz.ntmps59
    go_wp2
    go_ret
    exact ⟨_, rfl, World.ownsRow_nil _ _ _ _, Below.refl _ _⟩
  | some ad =>
    have HN := Lib.hid (show ∀ (j : Nat) (u : Value), (l.flatMap encI)[j]? = some u → w.cell? (ad.add j) = some u from by
      intro j u hu
      have hj : j < l.length := by have := (List.getElem?_eq_some_iff.1 hu).1; rw [flatI] at this; simpa using this
      obtain ⟨b, off, e, _, hc⟩ := hr (by omega)
      injection e with e
      subst e
      obtain ⟨x, hx⟩ := getElem?_lt hj
      have h1 := hc j x hx 0 _ rfl
      rw [flatI] at hu
      simp [hx] at hu
      subst hu
      have e2 : (⟨b, off, none⟩ : Addr).add j = ⟨b, off + j, none⟩ := by unfold Addr.add; by_cases hj0 : j = 0 <;> simp [hj0]
      rw [e2]
      simpa using h1)
    have hll : (l.flatMap encI).length = l.length * 1 := by rw [flatI]; simp
    have hn := Lib.run_eql_slice_nil w 28 3 (some ad) l.length cap 0 0 Tryz.underlying28
    simp only [Option.isNone] at hn
    clear hr
    go_enter Tryz.func59, Tryz.ntmps59
    go_wp2_with (at_builtin; go_loud (refine wpList_append_own _ rfl _ _ 28 rfl w.heap.size 3 i0 (.int .i64 0) 1 8 Tryz.underlying28 HI.out.1 HI.out.2.1 HI.out.2.2.1 HI.out.2.2.2 rfl (by decide) _ 0 [] rfl (lit_zero w) ad l.length cap (l.flatMap encI) rfl hll ?c1 (int_cells l) ?c3 ?c4 ?c5 ?_))
    case c1 => exact fun j u hu => (World.cell?_alloc_lt _ _ _ (by have := block_lt_of_cell (HN.out j u hu); exact this)).trans (HN.out j u hu)
    case c3 => unfold maxLen; omega
    case c4 => omega
    case c5 => simp
    intro v' w' hown' hgrow hnil
    have HO := Lib.hid (And.intro hown' hgrow)
    clear hown' hgrow hnil
    go_wp2
    go_ret
    exact ⟨_, rfl, by have := HO.out.1; simpa using this, (((Below.refl _ _).alloc (Nat.le_refl _) _).grown HO.out.2 (by simp) (fun j hj => by simp [Value.ownBlock] at hj; omega))⟩
end Go.Proofs.YtagajjilccjplaaGreat
end
section
set_option linter.unusedVariables false
set_option linter.unusedSimpArgs false
/- path.New. -/
namespace Go.Proofs.YtagajjilccjplaaGreat
open Go.RowKit

theorem RdL.turns {α : Type} {w w' : World} {v : Value} {sz : Nat} {enc : α → List Value} {l : List α} {S : List Nat} (h : RdL w v sz enc l) (k : Turns S w w') (hn : ∀ g, v.ownBlock = some g → g ∉ S) : RdL w' v sz enc l := by
  obtain ⟨A, cap, rfl, h2, h3, h4⟩ := h
  refine ⟨A, cap, rfl, h2, h3, fun hl => ?_⟩
  obtain ⟨b, off, rfl, hb, hc⟩ := h4 hl
  have hS : b ∉ S := hn b rfl
  refine ⟨b, off, rfl, Nat.lt_of_lt_of_le hb k.size, fun i x hx j u hu => ?_⟩
  rw [World.cell?_of_block (w := w) (w' := w') (a := ⟨b, off + i * sz + j, none⟩) (k.block b hb hS)]
  exact hc i x hx j u hu
def nilS : Value := .slice none 0 0
/-- a table of which nothing was found yet -/
structure Tab0 (w : World) (b : Nat) (P T : List Int) : Prop where
  ex : ∃ AP cP AT cT, Blk w b 129 #[.slice AP P.length cP, .slice AT T.length cT, .int .u32 0, .int .i32 0, .int .u32 0, .slice none 0 0, .slice none 0 0, .slice none 0 0, .slice none 0 0] ∧ RdL w (.slice AP P.length cP) 1 encI P ∧ RdL w (.slice AT T.length cT) 1 encI T ∧ (∀ g, (Value.slice AP P.length cP).ownBlock = some g → g ≠ b) ∧ (∀ g, (Value.slice AT T.length cT).ownBlock = some g → g ≠ b)
end Go.Proofs.YtagajjilccjplaaGreat
end
