/- Layer 6: topo.leaves, levels. -/
import Derived.Test.YtnlpghjlhnhkeaaTop3
import Derived.Maps.AppendAt
namespace Go.Proofs.Ytnlpghjlhnhkeaa
open Go.RowKit

theorem own_lower {w : World} {b b' : Nat} {e : TypeId} {sz : Nat} {v : Value} {n : Nat} {xs : List Value} (h : w.ownsRow b e sz v n xs) (hb : b' ≤ b) : w.ownsRow b' e sz v n xs := by
  rcases h.2 with h0 | ⟨g, cap, cur, q1, q2, q⟩
  · exact ⟨h.1, .inl h0⟩
  · exact ⟨h.1, .inr ⟨g, cap, cur, q1, Nat.le_trans hb q2, q⟩⟩
theorem own_rdl {w : World} {b : Nat} {v : Value} {l : List Int} (h : w.ownsRow b 3 1 v l.length (l.flatMap encI)) (hl : l.length ≤ 140737488355328) : RdL w v 1 encI l := RdL.of_own encI_len rfl hl h
theorem one_enc (x : Int) : ∀ u ∈ encI x, u.oneCell' = true := by simp [encI, Value.oneCell']
theorem inn_at {P : List Int} {k : Nat} (hk : k < P.length) : (innTo P P.length)[k]? = some (decide ((k : Int) ∈ P)) := by
  unfold innTo
  rw [range_get _ _ _ hk, List.take_length]
theorem leaf_nat {P : List Int} {k : Nat} (hk : k < P.length) : leafB P k = !decide ((k : Int) ∈ P) := by
  unfold leafB
  by_cases h : (k : Int) ∈ P
  · simp [h]
  · simp [h, hk]
theorem flat_snoc (l : List Int) (x : Int) : (l ++ [x]).flatMap encI = l.flatMap encI ++ encI x := by simp
set_option maxRecDepth 100000 in
set_option maxHeartbeats 1000000 in
theorem leaves_any (w : World) (v : Value) (P : List Int) (h : RdL w v 1 encI P) (ht : treeB P = true) (h32 : P.length ≤ 1000) :
    Calls Try.prog 62 #[v] w fun e w' => ∃ v', e = .returned v' ∧ w'.ownsRow w.heap.size 3 1 v' (leavesL P).length ((leavesL P).flatMap encI) ∧ Below w.heap.size w w' := by
  obtain ⟨i0, hi, hz0, hz1, hz2⟩ := info_parts Try.infoIn
  have HI := Lib.hid (And.intro hi (And.intro hz0 (And.intro hz1 hz2)))
  have HC := Lib.hid (inner_any w v P h ht h32)
  clear hi hz0 hz1 hz2 h ht
  go_enter Try.func62, Try.ntmps62
  go_wp2_with fail
  refine HC.out.mono ?_
  rintro en w1 ⟨v', rfl, hR, hb⟩
  have HB := Lib.hid hb
  have hs1 := hb.size
  clear hb
  obtain ⟨A, cap, rfl, l1, l2, hr⟩ := hR
  have HR := Lib.hid hr
  clear hr
  have hln : (innTo P P.length).length = P.length := innTo_len _ _
  rw [hln] at *
  clear hln
  go_wp2
  go_loopw [3, 9] (fun o i wr => ∃ k : Nat, i = .int .i64 k ∧ k ≤ P.length ∧ wr.ownsRow w1.heap.size 3 1 o (leavesTo P k).length ((leavesTo P k).flatMap encI) ∧ Below w1.heap.size w1 wr) (fun _ i _ => P.length - (intOf i).toNat)
  case atStart => exact ⟨0, rfl, by omega, World.ownsRow_nil _ _ _ _, Below.refl _ _⟩
  case round =>
    obtain ⟨k, rfl, hk, hown, hbel⟩ := hrel
    by_cases hlt : k < P.length
    · obtain ⟨bl, off, rfl, hbl, hc⟩ := HR.out (by rw [innTo_len]; omega)
      have c0 := (hbel.cell (p := ⟨bl, off + k * 1 + 0, none⟩) hbl).trans (hc k _ (inn_at hlt) 0 _ rfl)
      simp only [Nat.add_zero, Nat.mul_one] at c0
      have hll := leavesTo_len P k
      have hsz := hbel.size
      have HS := Lib.hid (leavesTo_succ P k)
      have HL := Lib.hid (leaf_nat hlt)
      have HO := Lib.hid (And.intro hown hbel)
      obtain ⟨A9, c9, rfl⟩ := own_form hown
      clear hc hbel
      cases hm : decide ((k : Int) ∈ P)
      · rw [hm] at c0
        have HM := Lib.hid hm
        clear hm
        go_wp2_with (at_builtin; refine wpList_append_own _ rfl _ _ 22 rfl w1.heap.size 3 i0 (.int .i64 0) 1 8 Try.underlying22 HI.out.1 HI.out.2.1 HI.out.2.2.1 HI.out.2.2.2 rfl (by decide) _ _ _ rfl (hown.alloc _) ⟨wr.heap.size, 0, none⟩ 1 1 (encI k) rfl rfl (cell_one_new _ _ _) (one_enc _) ?c3 ?c4 ?c5 ?_)
        case c3 => unfold maxLen; omega
        case c4 => omega
        case c5 => simp; omega
        intro v' w' hown' hgrow hnil
        have HN := Lib.hid (And.intro hown' hgrow)
        clear hown' hgrow hnil hown
        go_wp2
        go_roundw
        case rel => exact ⟨k + 1, by go_num, by omega, by rw [HS.out, HL.out, HM.out]; simp only [Bool.not_false, if_true]; rw [flat_snoc, List.length_append]; exact HN.out.1, (HO.out.2.alloc hsz _).grown HN.out.2 (by simp; omega) (fun j hj => (HO.out.1.lt j hj).1)⟩
        case measure => simp [intOf]; omega
      · rw [hm] at c0
        have HM := Lib.hid hm
        clear hm hown
        go_wp2
        go_roundw
        case rel => exact ⟨k + 1, by go_num, by omega, by rw [HS.out, HL.out, HM.out]; exact HO.out.1, HO.out.2⟩
        case measure => simp [intOf]; omega
    · obtain rfl : k = P.length := by omega
      have hll := leavesTo_len P P.length
      have HO := Lib.hid (And.intro hown hbel)
      clear hown hbel
      go_wp2
      go_ret
      exact ⟨_, rfl, own_lower HO.out.1 hs1, HB.out.trans (HO.out.2.mono hs1)⟩

/-- how deep each place is, as far as the first k are reckoned -/
def levTo (P : List Int) (k : Nat) : List Int := (List.range P.length).map fun (u : Nat) => if u < k then ((depL P u : Nat) : Int) else 0
def levL (P : List Int) : List Int := (List.range P.length).map fun (u : Nat) => ((depL P u : Nat) : Int)
theorem levTo_len (P : List Int) (k : Nat) : (levTo P k).length = P.length := by simp [levTo]
theorem levTo_all (P : List Int) : levTo P P.length = levL P := by
  unfold levTo levL
  exact List.map_congr_left fun u hu => if_pos (List.mem_range.1 hu)
theorem flatI (l : List Int) : l.flatMap encI = l.map (Value.int .i64) := (map_flat _ _).symm
theorem levTo_set (P : List Int) (k : Nat) (x : Int) (hx : x = ((depL P k : Nat) : Int)) : ((levTo P k).flatMap encI).set k (.int .i64 x) = (levTo P (k + 1)).flatMap encI := by
  rw [flatI, flatI]
  unfold levTo
  rw [List.map_map, List.map_map]
  refine range_set P.length k _ _ _ ?_ fun j hj => ?_
  · show Value.int .i64 (if k < k + 1 then _ else _) = _
    rw [if_pos (by omega), hx]
  · show Value.int .i64 (if j < k + 1 then _ else _) = Value.int .i64 (if j < k then _ else _)
    by_cases h : j < k
    · rw [if_pos h, if_pos (by omega)]
    · rw [if_neg h, if_neg (by omega)]
theorem levTo_get (P : List Int) (k m : Nat) (hm : m < k) (hk : k ≤ P.length) : ((levTo P k).flatMap encI)[m]? = some (.int .i64 ((depL P m : Nat) : Int)) := by
  rw [flatI]
  unfold levTo
  rw [List.map_map, range_get _ _ _ (by omega)]
  show some (Value.int .i64 (if m < k then _ else _)) = _
  rw [if_pos hm]
set_option maxRecDepth 100000 in
set_option maxHeartbeats 1000000 in
theorem levels_any (w : World) (v : Value) (P : List Int) (h : RdL w v 1 encI P) (ht : treeB P = true) (h32 : P.length ≤ 1000) :
    Calls Try.prog 63 #[v] w fun e w' => ∃ v', e = .returned v' ∧ w'.ownsRow w.heap.size 3 1 v' (levL P).length ((levL P).flatMap encI) ∧ Below w.heap.size w w' := by
  obtain ⟨i0, hi, hz0, hz1, hz2⟩ := info_parts Try.infoIn
  obtain ⟨A, cap, rfl, l1, l2, hr⟩ := h
  have HR := Lib.hid hr
  have HT := Lib.hid ht
  clear hr ht
  go_enter Try.func63, Try.ntmps63
  go_wp2_with (refine wpList_make_full _ rfl (.tmp 7) (.tmp 7) 22 rfl w.heap.size 3 i0 (.int .i64 0) 1 Try.underlying22 hi hz0 hz1 .i64 .i64 P.length P.length P.length rfl rfl rfl rfl ?b2 ?b3 (Nat.le_refl _) ?_)
  case b2 => rw [hz2]; omega
  case b3 => unfold maxLen; omega
  intro w1 hown hg
  have hown1 : w1.ownsRow w.heap.size 3 1 (.slice (some ⟨w.heap.size, 0, none⟩) P.length P.length) P.length ((levTo P 0).flatMap encI) := by
    have e : (madeCells #[Value.int .i64 0] P.length).toList = (levTo P 0).flatMap encI := by
      rw [made_const, flatI]
      unfold levTo
      rw [List.map_map]
      exact List.map_congr_left fun i _ => rfl
    rw [e] at hown; exact hown
  have hb1 : Below w.heap.size w w1 := (Below.refl w.heap.size w).grown hg (Nat.le_refl _) (fun j hj => by cases hj)
  clear hown hg hi hz0 hz1 hz2
  go_wp2
  go_loopw [11] (fun i wr => ∃ k : Nat, i = .int .i64 k ∧ k ≤ P.length ∧ wr.ownsRow w.heap.size 3 1 (.slice (some ⟨w.heap.size, 0, none⟩) P.length P.length) P.length ((levTo P k).flatMap encI) ∧ Below w.heap.size w wr) (fun i _ => P.length - (intOf i).toNat)
  case atStart => exact ⟨0, rfl, by omega, hown1, hb1⟩
  case round =>
    clear hown1 hb1
    obtain ⟨k, rfl, hk, hown, hbel⟩ := hrel
    by_cases hlt : k < P.length
    · obtain ⟨bl, off, rfl, hbl, hc⟩ := HR.out (by omega)
      obtain ⟨p, hp⟩ := getElem?_lt hlt
      have c0 := (hbel.cell (p := ⟨bl, off + k * 1 + 0, none⟩) hbl).trans (hc k p hp 0 _ rfl)
      simp only [Nat.add_zero, Nat.mul_one] at c0
      have hpl := tree_lt HT.out hp
      have hds := depL_step HT.out hp
      have hdb := depL_le P p
      have HP := Lib.hid hp
      clear hc hp
      have f0 := hown.frozenAt k
      have g0 := hown.cellAt k (by omega)
      have hgl := (hown.lt _ rfl).2
      obtain ⟨u, hu⟩ : ∃ u, ((levTo P k).flatMap encI)[k]? = some u := by
        rw [flatI]
        unfold levTo
        rw [List.map_map, range_get _ _ _ (by omega)]; exact ⟨_, rfl⟩
      rw [hu] at g0
      clear hu
      have hne : bl ≠ w.heap.size := by omega
      by_cases h0 : 0 ≤ p
      · rw [if_pos h0] at hds
        obtain ⟨m, rfl⟩ := Int.eq_ofNat_of_zero_le h0
        have g1 := hown.cellAt m (by omega)
        rw [levTo_get P k m (by omega) hk] at g1
        have hst := (hown.stored k (.int .i64 1)).1.stored k (.int .i64 (((depL P m : Nat) : Int) + 1))
        have HN := Lib.hid (levTo_set P k (((depL P m : Nat) : Int) + 1) (by rw [hds]; omega))
        have HB := Lib.hid (And.intro hst hbel)
        clear hst hbel hown hds
        go_wp2
        go_roundw
        case rel => exact ⟨k + 1, by go_num, by omega, by have := HB.out.1.1; rw [List.set_set, HN.out] at this; exact this, (HB.out.2.setCell (Nat.le_refl _) _).setCell (Nat.le_refl _) _⟩
        case measure => simp [intOf]; omega
      · rw [if_neg h0] at hds
        have hst := hown.stored k (.int .i64 1)
        have HN := Lib.hid (levTo_set P k 1 (by rw [hds]; rfl))
        have HB := Lib.hid (And.intro hst hbel)
        clear hst hbel hown hds
        go_wp2
        go_roundw
        case rel => exact ⟨k + 1, by go_num, by omega, by have := HB.out.1.1; rw [HN.out] at this; exact this, HB.out.2.setCell (Nat.le_refl _) _⟩
        case measure => simp [intOf]; omega
    · obtain rfl : k = P.length := by omega
      have HB := Lib.hid (And.intro hown hbel)
      clear hown hbel
      go_wp2
      go_ret
      exact ⟨_, rfl, by rw [← levTo_all, levTo_len]; exact HB.out.1, HB.out.2⟩
end Go.Proofs.Ytnlpghjlhnhkeaa
