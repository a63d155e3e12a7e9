/- Layer 6: topo.tree, inner, leaves, levels. -/
import Derived.Test.YtnlpghjlhnhkeaaTop2
import Derived.Laws.OwnMore
import Derived.OwnWalk
namespace Go.Proofs.Ytnlpghjlhnhkeaa
open Go.RowKit

theorem all_false {f : Nat → Bool} {n k : Nat} (hk : k < n) (h : f k = false) : (List.range n).all f = false := by
  rw [List.all_eq_false]
  exact ⟨k, List.mem_range.2 hk, by simp [h]⟩
set_option maxRecDepth 100000 in
set_option maxHeartbeats 1000000 in
theorem tree_any (w : World) (v : Value) (P : List Int) (h : RdL w v 1 encI P) :
    Calls Try.prog 61 #[v] w fun e w' => e = .returned (.bool (treeB P)) ∧ w = w' := by
  obtain ⟨A, cap, rfl, l1, l2, hr⟩ := h
  have HR := Lib.hid hr
  clear hr
  go_enter Try.func61, Try.ntmps61
  go_wp2
  go_loop [7] (fun i => ∃ k : Nat, i = .int .i64 k ∧ k ≤ P.length ∧ (List.range k).all (okP P) = true) (fun i => P.length - (intOf i).toNat)
  case atStart => exact ⟨0, rfl, by omega, rfl⟩
  case round =>
    obtain ⟨k, rfl, hk, ha⟩ := hrel
    by_cases hlt : k < P.length
    · obtain ⟨bl, off, rfl, hbl, hc⟩ := HR.out (by omega)
      obtain ⟨p, hp⟩ := getElem?_lt hlt
      have c0 := hc k p hp 0 _ rfl
      simp only [Nat.add_zero, Nat.mul_one] at c0
      have HP := Lib.hid (And.intro (getD_of hp) ha)
      clear hc hp ha
      by_cases hok : (k = 0 → p = -1) ∧ (0 < k → 0 ≤ p ∧ p < k)
      · have HF : Hid ((List.range (k + 1)).all (okP P) = true) := Lib.hid (by
          rw [range_all_succ, HP.out.2]
          simp only [Bool.true_and]
          exact decide_eq_true (by rw [HP.out.1]; exact hok))
        by_cases h0 : k = 0
        · have e1 := hok.1 h0
          subst h0
          subst e1
          simp only [Nat.add_zero] at c0
          go_wp2
          go_round
          case rel => exact ⟨1, by rfl, by omega, HF.out⟩
          case measure => simp [intOf]; omega
        · obtain ⟨e1, e2⟩ := hok.2 (by omega)
          have t0 : ((k : Int) == 0) = false := by rw [beq_eq_false_iff_ne]; omega
          have t1 : decide (0 < k) = true := decide_eq_true (by omega)
          have t2 : decide (p < 0) = false := decide_eq_false (by omega)
          have t3 : decide ((k : Int) ≤ p) = false := decide_eq_false (by omega)
          clear hok h0
          go_wp2
          go_round
          case rel => exact ⟨k + 1, by go_num, by omega, HF.out⟩
          case measure => simp [intOf]; omega
      · have HF : Hid (treeB P = false) := Lib.hid (all_false hlt (decide_eq_false (by rw [HP.out.1]; exact hok)))
        by_cases h0 : k = 0
        · subst h0
          simp only [Nat.add_zero] at c0
          have t1 : (p != -1) = true := by rw [bne_iff_ne]; intro h; exact hok ⟨fun _ => h, by omega⟩
          clear hok
          go_wp2
          go_ret
          exact ⟨ret_bool HF.out.symm, rfl⟩
        · have t0 : ((k : Int) == 0) = false := by rw [beq_eq_false_iff_ne]; omega
          have t1 : decide (0 < k) = true := decide_eq_true (by omega)
          by_cases hp0 : p < 0
          · clear hok h0
            go_wp2
            go_ret
            exact ⟨ret_bool HF.out.symm, rfl⟩
          · have t3 : decide ((k : Int) ≤ p) = true := decide_eq_true (by omega)
            have t2 : decide (p < 0) = false := decide_eq_false (by omega)
            clear hok h0
            go_wp2
            go_ret
            exact ⟨ret_bool HF.out.symm, rfl⟩
    · obtain rfl : k = P.length := by omega
      have HF : Hid (treeB P = true) := Lib.hid ha
      clear ha
      go_wp2
      go_ret
      exact ⟨ret_bool HF.out.symm, rfl⟩

def encB (b : Bool) : List Value := [.bool b]
theorem encB_len (b : Bool) : (encB b).length = 1 := rfl
theorem Try.infoBool : (Try.prog.info? 4).map (fun i => (i.zero, i.size, i.bytes)) = some (some (.bool false), 1, 1) := by kernel_rfl
theorem Try.infoIn : (Try.prog.info? 3).map (fun i => (i.zero, i.size, i.bytes)) = some (some (.int .i64 0), 1, 8) := by kernel_rfl
theorem made_const (u : Value) (n : Nat) : (madeCells #[u] n).toList = (List.range n).map fun _ => u := by
  unfold madeCells
  rw [Array.toList_map, Array.toList_range]
  refine List.map_congr_left fun i _ => ?_
  simp [Nat.mod_one]
theorem map_flat {α : Type} (enc : α → Value) (l : List α) : l.map enc = l.flatMap (fun x => [enc x]) := by
  induction l with
  | nil => rfl
  | cons a l ih => rw [List.map_cons, List.flatMap_cons, ih]; rfl
/-- of each place: is it somebody's parent, of the first k? -/
def innTo (P : List Int) (k : Nat) : List Bool := (List.range P.length).map fun (u : Nat) => decide ((u : Int) ∈ P.take k)
theorem innTo_enc (P : List Int) (k : Nat) : (innTo P k).flatMap encB = (List.range P.length).map fun (u : Nat) => Value.bool (decide ((u : Int) ∈ P.take k)) := by
  unfold innTo
  show List.flatMap (fun x => [Value.bool x]) _ = _
  rw [← map_flat Value.bool, List.map_map]; rfl
theorem innTo_len (P : List Int) (k : Nat) : (innTo P k).length = P.length := by simp [innTo]
set_option maxRecDepth 100000 in
set_option maxHeartbeats 1000000 in
theorem inner_any (w : World) (v : Value) (P : List Int) (h : RdL w v 1 encI P) (ht : treeB P = true) (h32 : P.length ≤ 1000) :
    Calls Try.prog 79 #[v] w fun e w' => ∃ v', e = .returned v' ∧ RdL w' v' 1 encB (innTo P P.length) ∧ Below w.heap.size w w' := by
  obtain ⟨i0, hi, hz0, hz1, hz2⟩ := info_parts Try.infoBool
  obtain ⟨A, cap, rfl, l1, l2, hr⟩ := h
  have HR := Lib.hid hr
  have HT := Lib.hid ht
  clear hr ht
  go_enter Try.func79, Try.ntmps79
  go_wp2_with (refine wpList_make_full _ rfl (.tmp 7) (.tmp 7) 111 rfl w.heap.size 4 i0 (.bool false) 1 Try.underlying111 hi hz0 hz1 .i64 .i64 P.length P.length P.length rfl rfl rfl rfl ?b2 ?b3 (Nat.le_refl _) ?_)
  case b2 => rw [hz2]; omega
  case b3 => unfold maxLen; omega
  intro w1 hown hg
  have hown1 : w1.ownsRow w.heap.size 4 1 (.slice (some ⟨w.heap.size, 0, none⟩) P.length P.length) P.length ((innTo P 0).flatMap encB) := by
    rw [innTo_enc]
    have e : (madeCells #[Value.bool false] P.length).toList = (List.range P.length).map fun (u : Nat) => Value.bool (decide ((u : Int) ∈ P.take 0)) := by
      rw [made_const]
      refine List.map_congr_left fun i _ => by simp
    rw [e] at hown; exact hown
  have hb1 : Below w.heap.size w w1 := (Below.refl w.heap.size w).grown hg (Nat.le_refl _) (fun j hj => by cases hj)
  clear hown hg
  go_wp2
  go_loopw [11] (fun i wr => ∃ k : Nat, i = .int .i64 k ∧ k ≤ P.length ∧ wr.ownsRow w.heap.size 4 1 (.slice (some ⟨w.heap.size, 0, none⟩) P.length P.length) P.length ((innTo P k).flatMap encB) ∧ Below w.heap.size w wr) (fun i _ => P.length - (intOf i).toNat)
  case atStart => exact ⟨0, rfl, by omega, hown1, hb1⟩
  case round =>
    clear hown1 hb1
    obtain ⟨k, rfl, hk, hown, hbel⟩ := hrel
    by_cases hlt : k < P.length
    · obtain ⟨bl, off, rfl, hbl, hc⟩ := HR.out (by omega)
      obtain ⟨p, hp⟩ := getElem?_lt hlt
      have c0 := (hbel.cell (p := ⟨bl, off + k * 1 + 0, none⟩) hbl).trans (hc k p hp 0 _ rfl)
      simp only [Nat.add_zero, Nat.mul_one] at c0
      have hpl := tree_lt HT.out hp
      have HP := Lib.hid hp
      clear hc hp
      by_cases h0 : 0 ≤ p
      · have f0 := hown.frozenAt p.toNat
        have g0 := hown.cellAt p.toNat (by omega)
        have hgl := (hown.lt _ rfl).2
        have hst := hown.stored p.toNat (.bool true)
        have HN : Hid (∀ W : World, W.ownsRow w.heap.size 4 1 (.slice (some ⟨w.heap.size, 0, none⟩) P.length P.length) P.length (((innTo P k).flatMap encB).set p.toNat (.bool true)) → W.ownsRow w.heap.size 4 1 (.slice (some ⟨w.heap.size, 0, none⟩) P.length P.length) P.length ((innTo P (k + 1)).flatMap encB)) := Lib.hid fun W hW => by
          rw [innTo_enc] at hW ⊢
          rw [range_set P.length p.toNat _ (fun (u : Nat) => Value.bool (decide ((u : Int) ∈ P.take (k + 1)))) (.bool true) (by
            show Value.bool (decide (((p.toNat : Nat) : Int) ∈ P.take (k + 1))) = _
            rw [decide_eq_true ((mem_take HP.out _).2 (.inr (by omega)))]) (fun j hj => by
            show Value.bool (decide ((j : Int) ∈ P.take (k + 1))) = Value.bool (decide ((j : Int) ∈ P.take k))
            congr 1
            refine decide_eq_decide.2 ?_
            rw [mem_take HP.out]
            exact ⟨fun h => h.elim id (fun h => by omega), .inl⟩)] at hW
          exact hW
        obtain ⟨u, hu⟩ : ∃ u, ((innTo P k).flatMap encB)[p.toNat]? = some u := by
          rw [innTo_enc, range_get _ _ _ (by omega)]; exact ⟨_, rfl⟩
        rw [hu] at g0
        obtain ⟨m, rfl⟩ := Int.eq_ofNat_of_zero_le h0
        simp only [Int.toNat_natCast] at f0 g0 hst HN
        have HB := Lib.hid (And.intro hst hbel)
        clear hu hst hbel hown
        go_wp2
        go_roundw
        case rel => exact ⟨k + 1, by go_num, by omega, HN.out _ HB.out.1.1, HB.out.2.setCell (Nat.le_refl _) _⟩
        case measure => simp [intOf]; omega
      · have HN : Hid (innTo P (k + 1) = innTo P k) := Lib.hid (by
          unfold innTo
          refine List.map_congr_left fun u _ => decide_eq_decide.2 ?_
          rw [mem_take HP.out]
          exact ⟨fun h => h.elim id (fun h => by omega), .inl⟩)
        have HB := Lib.hid (And.intro hown hbel)
        clear hown hbel
        go_wp2
        go_roundw
        case rel => exact ⟨k + 1, by go_num, by omega, by rw [HN.out]; exact HB.out.1, HB.out.2⟩
        case measure => simp [intOf]; omega
    · obtain rfl : k = P.length := by omega
      have HB := Lib.hid (And.intro hown hbel)
      clear hown hbel
      go_wp2
      go_ret
      exact ⟨_, rfl, RdL.of_own encB_len (innTo_len P _).symm (by rw [innTo_len]; omega) HB.out.1, HB.out.2⟩
end Go.Proofs.Ytnlpghjlhnhkeaa
