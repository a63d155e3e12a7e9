/- Joined: Ds7, Xq1, Xq2, Xq3, Xq4. -/
import Derived.Deep.RegionHeld3
import Derived.Deep.DeepCutAuto
import Derived.WalkKit
import Derived.WalkSpells
import Derived.ProofKit
import Derived.Below
import Derived.Laws.StructEq
import Derived.Test.YtgilghiegfgjeaaGreatDoorMgDeskHeads4
import Derived.Test.YtgilghiegfgjeaaGreatDoorMgDeskHeads5
section
set_option linter.unusedVariables false
set_option linter.unusedSimpArgs false
/- Layer 48: the document's Spec. -/
namespace Go.Proofs.YtgilghiegfgjeaaGreatDoor
open Go.RowKit Go.Shelf Dk

theorem rkind_call (s : ByteArray) (k : Nat) (hk : KindIs s k) (w : World) : Calls Tryz.prog 20 #[.string s] w fun e w' => e = .returned (.int .i64 k) ∧ Below w.heap.size w w' :=
  (rkind_any w s).mono fun e w' ⟨j, he, hj, hb⟩ => ⟨by rw [he, hj.uniq hk], hb⟩
set_option maxRecDepth 100000 in
set_option maxHeartbeats 8000000 in
theorem rspec_any (w : World) (v : Value) (l : List ByteArray) (hR : RdL w v 1 encS l) (hl : l.length ≤ 1000) :
    Calls Tryz.prog 8 #[v] w fun e w' => Below w.heap.size w w' ∧ ∃ u, e = .returned u ∧ SpecRes l u := by
  obtain ⟨i0, hi, hz0, hz1, hz2⟩ := info_parts Tryz.infoDs
  have HI := Lib.hid (And.intro hi (And.intro hz0 (And.intro hz1 hz2)))
  clear hi hz0 hz1 hz2
  have HS := Lib.hid hR
  obtain ⟨A, cap, rfl⟩ : ∃ A cap, v = .slice A l.length cap := by
    obtain ⟨A, cap, e, _⟩ := hR
    exact ⟨A, cap, e⟩
  clear hR
  have B0 : Blk (w.alloc (.cells #[.int .i64 0, .int .i64 0, .int .i64 0, .int .i64 0, .int .i64 0] 32)) w.heap.size 32 _ := Blk.new _ _ _
  by_cases h6 : l.length = 6
  · obtain ⟨_, hcap, b, off, rfl, hb, hcell⟩ := HS.out.word (by omega)
    obtain ⟨s0, hs0⟩ := getElem?_lt (show 0 < l.length by omega)
    obtain ⟨s1, hs1⟩ := getElem?_lt (show 1 < l.length by omega)
    have c0 : w.cell? ⟨b, off, none⟩ = some (.string s0) := hcell 0 s0 hs0
    have HH := Lib.hid (And.intro hs0 (And.intro hs1 hcell))
    rw [h6] at hcap HS ⊢
    clear hs0 hs1 hcell
    by_cases hlk : s0 = lockB
    · have he : (s0.toList == [108, 111, 99, 107]) = true := by rw [ByteArray.toList_eq, hlk]; rfl
      have HL := Lib.hid hlk
      clear hlk
      go_enter Tryz.func8, Tryz.ntmps8
      go_wp2
      obtain ⟨w0, hw0⟩ : ∃ w0, w0 = w.alloc (.cells #[.int .i64 0, .int .i64 0, .int .i64 0, .int .i64 0, .int .i64 0] 32) := ⟨_, rfl⟩
      have b0 : Below w.heap.size w w0 := by rw [hw0]; exact (Below.refl _ w).alloc (Nat.le_refl _) _
      have n0 : w.heap.size < w0.heap.size := by rw [hw0]; simp
      rw [← hw0] at B0 ⊢
      have H0 := Lib.hid (And.intro B0 b0)
      clear hw0 B0 b0 c0
      go_loopw [4, 5] (fun o j wr => ∃ (k : Nat) (zs : List Int), j = .int .i64 ((2 + k : Nat) : Int) ∧ k ≤ 4 ∧ zs.length = k ∧ (∀ (i : Nat) s, i < k → (l.drop 2)[i]? = some s → parseB s = zs[i]?) ∧ wr.ownsRow w0.heap.size 3 1 o zs.length (zs.flatMap encI) ∧ Below w0.heap.size w0 wr) (fun _ j _ => 10 - (intOf j).toNat)
      case atStart => exact ⟨0, [], rfl, by omega, rfl, fun i s hi => by omega, World.ownsRow_nil _ _ _ _, Below.refl _ _⟩
      case round =>
        obtain ⟨k, zs, rfl, hk, hzl, hall, hown, hbel⟩ := hrel
        obtain ⟨wo, rfl⟩ : ∃ wo : World, wo = wr := ⟨_, rfl⟩
        have hsz := hbel.size
        have HO := Lib.hid (And.intro hown (And.intro hbel (And.intro hall hzl)))
        obtain ⟨A9, c9, rfl⟩ := own_form hown
        have B1 := H0.out.1.below hbel H0.out.1.lt
        have b1 : Below w.heap.size w wo := H0.out.2.trans (hbel.mono (by omega))
        by_cases hlt : k < 4
        · obtain ⟨s, hsk⟩ := getElem?_lt (show 2 + k < l.length by omega)
          have hc : wo.cell? ⟨b, off + (2 + k), none⟩ = some (.string s) := (b1.cell (by exact hb)).trans (HH.out.2.2 (2 + k) s hsk)
          have HSK := Lib.hid hsk
          have HB := Lib.hid (And.intro B1 b1)
          have d0 : wo.cell? ⟨w.heap.size, 0, none⟩ = some (.int .i64 0) := B1.cell 0
          have d1 : wo.cell? ⟨w.heap.size, 1, none⟩ = some (.int .i64 0) := B1.cell 1
          have d2 : wo.cell? ⟨w.heap.size, 2, none⟩ = some (.int .i64 0) := B1.cell 2
          have d3 : wo.cell? ⟨w.heap.size, 3, none⟩ = some (.int .i64 0) := B1.cell 3
          have d4 : wo.cell? ⟨w.heap.size, 4, none⟩ = some (.int .i64 0) := B1.cell 4
          have hfz : ∀ i, wo.frozen? ⟨w.heap.size, i, none⟩ = false := B1.free
          clear hbel hown hall hzl hsk B1 b1
          go_wp2_with fail
          refine (rparse_any wo s).mono ?_
          rintro e w1 ⟨hw, rfl⟩
          obtain rfl := hw.symm
          cases hp : parse s.data.toList with
          | none =>
            have HP : Hid (parseB s = none) := Lib.hid hp
            clear hp
            simp only [parseV]
            go_wp2
            refine bodyPost_ret (results_cell_row2 (by rfl) _ _ w.heap.size 32 _ (0, 0) _ (by rfl) (set5 HB.out.1) Tryz.underlying32 rfl (by kernel_rfl)) rfl ?_
            exact ⟨bel5 HB.out.2 _ (Nat.le_refl _) _ _ _ _ _, _, rfl, .inl ⟨specOf_num ⟨s, List.mem_of_getElem? (i := k) (by rw [List.getElem?_drop]; exact HSK.out), HP.out⟩, rfl⟩⟩
          | some z =>
            have HP : Hid (parseB s = some z) := Lib.hid hp
            clear hp
            simp only [parseV]
            go_wp2_with (at_builtin; refine wpList_append_own _ rfl _ _ 45 rfl w0.heap.size 3 i0 (.int .i64 0) 1 8 Tryz.underlying45 HI.out.1 HI.out.2.1 HI.out.2.2.1 HI.out.2.2.2 rfl (by decide) _ _ _ rfl (HO.out.1.alloc _) ⟨wo.heap.size, 0, none⟩ 1 1 (encI z) rfl rfl (cell_one_new _ _ _) (one_encD _) ?c3 ?c4 ?c5 ?_)
            case c3 => have hll := HO.out.2.2.2; unfold maxLen; omega
            case c4 => have hll := HO.out.2.2.2; omega
            case c5 => first | omega | (simp; omega)
            intro v' w' hown' hgrow hnil
            have HN := Lib.hid (And.intro hown' hgrow)
            clear hown' hgrow hnil
            go_wp2
            go_roundw
            case rel =>
              refine ⟨k + 1, zs ++ [z], by go_num, by omega, by rw [List.length_append, HO.out.2.2.2]; rfl, fun i s' hi hs' => ?_, by rw [List.length_append, List.flatMap_append]; exact HN.out.1, (HO.out.2.1.alloc hsz _).grown HN.out.2 (by simp; omega) (fun j hj => (HO.out.1.lt j hj).1)⟩
              by_cases e : i = k
              · subst e
                rw [List.getElem?_drop, HSK.out] at hs'
                injection hs' with hs'
                subst hs'
                rw [HP.out, List.getElem?_append_right (by rw [HO.out.2.2.2]; exact Nat.le_refl _), HO.out.2.2.2]
                simp
              · rw [List.getElem?_append_left (by rw [HO.out.2.2.2]; omega)]
                exact HO.out.2.2.1 i s' (by omega) hs'
            case measure => simp [intOf]; omega
        · obtain rfl : k = 4 := by omega
          obtain ⟨n, g, lo, p, bu, hn, rfl, hsp⟩ := specOf_some h6 (HL.out ▸ HH.out.1) hzl (fun i s hs => hall i s (by have := (List.getElem?_eq_some_iff.1 hs).1; rw [List.length_drop] at this; omega) hs)
          obtain rfl : s1 = n := by
            have := HH.out.2.1.symm.trans hn
            injection this
          have c1' : wo.cell? ⟨b, off + 1, none⟩ = some (.string s1) := (b1.cell (by exact hb)).trans (HH.out.2.2 1 s1 HH.out.2.1)
          have HB := Lib.hid (And.intro B1 (And.intro b1 hsp))
          have hR9 : RdL wo (.slice A9 4 c9) 1 encI [g, lo, p, bu] := own_rdlD HO.out.1 (by rw [hzl]; omega)
          have HR9 := Lib.hid hR9
          clear hn hsp B1 b1 hbel hown hall hzl hR9
          rw [show ([g, lo, p, bu] : List Int).length = 4 from rfl] at HO ⊢
          go_wp2_with fail
          refine (rkind_any wo s1).mono ?_
          rintro e w2 ⟨k, rfl, hk, hb2⟩
          have B2 := HB.out.1.below hb2 HB.out.1.lt
          have b2 : Below w.heap.size w w2 := HB.out.2.1.trans (hb2.mono HB.out.2.1.size)
          have hz2 := HR9.out.below hb2 (Nat.le_refl _)
          obtain ⟨A', cap', hu, q1, q2, q3⟩ := hz2
          obtain ⟨b', off', rfl, hb', hc'⟩ := q3 (by simp)
          injection hu with hu1 hu2 hu3
          subst hu1
          have HK := Lib.hid hk
          by_cases hk0 : k = 0
          · subst hk0
            have d0 : w2.cell? ⟨w.heap.size, 0, none⟩ = some (.int .i64 0) := B2.cell 0
            have d1 : w2.cell? ⟨w.heap.size, 1, none⟩ = some (.int .i64 0) := B2.cell 1
            have d2 : w2.cell? ⟨w.heap.size, 2, none⟩ = some (.int .i64 0) := B2.cell 2
            have d3 : w2.cell? ⟨w.heap.size, 3, none⟩ = some (.int .i64 0) := B2.cell 3
            have d4 : w2.cell? ⟨w.heap.size, 4, none⟩ = some (.int .i64 0) := B2.cell 4
            have hfz : ∀ i, w2.frozen? ⟨w.heap.size, i, none⟩ = false := B2.free
            have H2 := Lib.hid (And.intro B2 b2)
            clear B2 b2 hk hb2 hc' q3
            go_wp2
            refine bodyPost_ret (results_cell_row2 (by rfl) _ _ w.heap.size 32 _ (0, 0) _ (by rfl) (set5 H2.out.1) Tryz.underlying32 rfl (by kernel_rfl)) rfl ?_
            exact ⟨bel5 H2.out.2 _ (Nat.le_refl _) _ _ _ _ _, _, rfl, .inr ⟨_, _, _, _, _, HB.out.2.2, 0, HK.out, rfl⟩⟩
          · have hkb : ((k : Int) == 0) = false := beq_eq_false_iff_ne.2 (by omega)
            have HKS : Hid (∀ W, Below w2.heap.size w2 W → W.cell? ⟨b, off + 1, none⟩ = some (.string s1) ∧ W.cell? ⟨b', off', none⟩ = some (.int .i64 g) ∧ W.cell? ⟨b', off' + 1, none⟩ = some (.int .i64 lo) ∧ W.cell? ⟨b', off' + 2, none⟩ = some (.int .i64 p) ∧ W.cell? ⟨b', off' + 3, none⟩ = some (.int .i64 bu)) :=
              Lib.hid fun W hW => ⟨(hW.cell (Nat.lt_of_lt_of_le hb b2.size)).trans ((hb2.cell (Nat.lt_of_lt_of_le hb HB.out.2.1.size)).trans c1'),
                (hW.cell hb').trans (by have := hc' 0 g rfl 0 _ rfl; simpa using this), (hW.cell hb').trans (by have := hc' 1 lo rfl 0 _ rfl; simpa using this), (hW.cell hb').trans (by have := hc' 2 p rfl 0 _ rfl; simpa using this), (hW.cell hb').trans (by have := hc' 3 bu rfl 0 _ rfl; simpa using this)⟩
            have hb9 : w.heap.size ≠ b := by omega
            have hb8 : w.heap.size ≠ b' := by
              have := (HO.out.1.lt b' rfl).1
              omega
            have HK5 : Hid (∀ (V : World) (x0 x1 x2 x3 x4 : Value), Below w2.heap.size w2 V → ∀ W, W = (((((V.setCell ⟨w.heap.size, 0, none⟩ x0).setCell ⟨w.heap.size, 1, none⟩ x1).setCell ⟨w.heap.size, 2, none⟩ x2).setCell ⟨w.heap.size, 3, none⟩ x3).setCell ⟨w.heap.size, 4, none⟩ x4) → W.cell? ⟨b, off + 1, none⟩ = some (.string s1) ∧ W.cell? ⟨b', off', none⟩ = some (.int .i64 g) ∧ W.cell? ⟨b', off' + 1, none⟩ = some (.int .i64 lo) ∧ W.cell? ⟨b', off' + 2, none⟩ = some (.int .i64 p) ∧ W.cell? ⟨b', off' + 3, none⟩ = some (.int .i64 bu)) := Lib.hid fun V x0 x1 x2 x3 x4 hV W hW => by
              have key : ∀ c o, w.heap.size ≠ c → W.cell? ⟨c, o, none⟩ = V.cell? ⟨c, o, none⟩ := fun c o hc => by
                rw [hW]
                rw [World.cell?_setCell_other, World.cell?_setCell_other, World.cell?_setCell_other, World.cell?_setCell_other, World.cell?_setCell_other]
                all_goals (intro e; injection e with e; exact hc e)
              rw [key b _ hb9, key b' _ hb8, key b' _ hb8, key b' _ hb8, key b' _ hb8]
              exact HKS.out V hV
            have HF : Hid (∀ W, Below w2.heap.size w2 W → Blk W w.heap.size 32 #[.int .i64 0, .int .i64 0, .int .i64 0, .int .i64 0, .int .i64 0]) := Lib.hid fun W hW => B2.below hW B2.lt
            have H2 := Lib.hid (And.intro B2 b2)
            clear B2 b2 hk hb2 hc' q3 c1'
            go_wp2
            go_region_held3 (fun W => W.cell? ⟨b, off + 1, none⟩ = some (.string s1) ∧ W.cell? ⟨b', off', none⟩ = some (.int .i64 g) ∧ W.cell? ⟨b', off' + 1, none⟩ = some (.int .i64 lo) ∧ W.cell? ⟨b', off' + 2, none⟩ = some (.int .i64 p) ∧ W.cell? ⟨b', off' + 3, none⟩ = some (.int .i64 bu))
              (first | exact HKS.out _ (Below.refl _ _).drew | exact HKS.out _ (by assumption) | exact HK5.out _ _ _ _ _ _ (by assumption) _ rfl)
              (first
                | (go_at_call 20; go_loud (refine (rkind_call s1 k HK.out _).mono ?_); rintro en w3 ⟨rfl, b3⟩; have k3 : Below w2.heap.size w2 w3 := ⟨b3.os, b3.tape, b3.output, b3.size, b3.block⟩; have d0 : w3.cell? ⟨w.heap.size, 0, none⟩ = some (.int .i64 0) := (HF.out _ k3).cell 0; have d1 : w3.cell? ⟨w.heap.size, 1, none⟩ = some (.int .i64 0) := (HF.out _ k3).cell 1; have d2 : w3.cell? ⟨w.heap.size, 2, none⟩ = some (.int .i64 0) := (HF.out _ k3).cell 2; have d3 : w3.cell? ⟨w.heap.size, 3, none⟩ = some (.int .i64 0) := (HF.out _ k3).cell 3; have d4 : w3.cell? ⟨w.heap.size, 4, none⟩ = some (.int .i64 0) := (HF.out _ k3).cell 4; have hfz : ∀ i, w3.frozen? ⟨w.heap.size, i, none⟩ = false := (HF.out _ k3).free))
            go_wp2
            refine bodyPost_ret (results_cell_row2 (by rfl) _ _ w.heap.size 32 _ (0, 0) _ (by rfl) (set5 (HF.out _ (by assumption))) Tryz.underlying32 rfl (by kernel_rfl)) rfl ?_
            exact ⟨bel5 (H2.out.2.trans (Below.mono (by assumption) H2.out.2.size)) _ (Nat.le_refl _) _ _ _ _ _, _, rfl, .inr ⟨_, _, _, _, _, HB.out.2.2, k, HK.out, (if_neg hk0).symm⟩⟩
    · have he : (s0.toList == [108, 111, 99, 107]) = false := by
        rw [ByteArray.toList_eq]
        exact beq_eq_false_iff_ne.2 fun e => hlk (ByteArray.ext (Array.toList_inj.1 e))
      have HL := Lib.hid (specOf_head HH.out.1 hlk)
      have HB := Lib.hid B0
      clear hlk B0
      go_enter Tryz.func8, Tryz.ntmps8
      go_wp2
      refine bodyPost_ret (results_cell_row2 (by rfl) _ _ w.heap.size 32 _ (0, 0) _ (by rfl) HB.out Tryz.underlying32 rfl (by kernel_rfl)) rfl ?_
      exact ⟨(Below.refl _ w).alloc (Nat.le_refl _) _, _, rfl, .inl ⟨HL.out, rfl⟩⟩
  · have HL := Lib.hid (specOf_len h6)
    have HB := Lib.hid B0
    have h6' : ((l.length : Int) != 6) = true := by simp; omega
    clear B0
    go_enter Tryz.func8, Tryz.ntmps8
    go_wp2
    refine bodyPost_ret (results_cell_row2 (by rfl) _ _ w.heap.size 32 _ (0, 0) _ (by rfl) HB.out Tryz.underlying32 rfl (by kernel_rfl)) rfl ?_
    exact ⟨(Below.refl _ w).alloc (Nat.le_refl _) _, _, rfl, .inl ⟨HL.out, rfl⟩⟩
end Go.Proofs.YtgilghiegfgjeaaGreatDoor
end
section
set_option linter.unusedVariables false
set_option linter.unusedSimpArgs false
/- Running closed code: plain data that stands for values and memory, by names in the place of blocks; what it means for such data to be what a world holds. No program in sight. -/
namespace Go.Proofs.YtgilghiegfgjeaaGreatDoor
open Go.RowKit

/-! ### A tree of numbers -/
inductive Tr (α : Type) where
  | nil
  | nd (x : Option α) (l r : Tr α)
namespace Tr
variable {α : Type}
def get : Tr α → Nat → Option α
  | nil, _ => none
  | nd x l r, k => bif Nat.beq k 0 then x else bif Nat.beq (k % 2) 1 then l.get (k / 2) else r.get (k / 2 - 1)
def single : Nat → Nat → α → Tr α
  | 0, _, v => nd (some v) nil nil
  | f + 1, k, v => bif Nat.beq k 0 then nd (some v) nil nil else bif Nat.beq (k % 2) 1 then nd none (single f (k / 2) v) nil else nd none nil (single f (k / 2 - 1) v)
def set : Tr α → Nat → α → Tr α
  | nil, k, v => single k k v
  | nd x l r, k, v => bif Nat.beq k 0 then nd (some v) l r else bif Nat.beq (k % 2) 1 then nd x (l.set (k / 2) v) r else nd x l (r.set (k / 2 - 1) v)
def del : Tr α → Nat → Tr α
  | nil, _ => nil
  | nd x l r, k => bif Nat.beq k 0 then nd none l r else bif Nat.beq (k % 2) 1 then nd x (l.del (k / 2)) r else nd x l (r.del (k / 2 - 1))
theorem beqd (a b : Nat) : Nat.beq a b = decide (a = b) := by
  rw [Bool.eq_iff_iff, Nat.beq_eq]; simp
theorem get_single (v : α) : ∀ (f k : Nat), k ≤ f → ∀ j, (single f k v).get j = if j = k then some v else none
  | 0, k, h, j => by
    obtain rfl : k = 0 := by omega
    simp only [single, get, beqd]
    by_cases hj : j = 0 <;> simp [hj]
  | f + 1, k, h, j => by
    simp only [single, beqd]
    by_cases hk : k = 0
    · subst hk
      by_cases hj : j = 0 <;> simp [get, hj, beqd]
    · by_cases ho : k % 2 = 1
      · simp only [hk, ho, decide_false, decide_true, cond_false, cond_true, get, beqd]
        rw [get_single v f (k / 2) (by omega)]
        by_cases hj : j = 0
        · have : ¬ j = k := by omega
          simp [hj]; omega
        · by_cases hjo : j % 2 = 1
          · simp only [hj, hjo, decide_false, decide_true, cond_false, cond_true]
            by_cases e : j = k
            · subst e; simp
            · rw [if_neg (by omega), if_neg e]
          · simp only [hj, hjo, decide_false, cond_false]
            rw [if_neg (by omega)]
      · simp only [hk, ho, decide_false, cond_false, get, beqd]
        rw [get_single v f (k / 2 - 1) (by omega)]
        by_cases hj : j = 0
        · simp [hj]; omega
        · by_cases hjo : j % 2 = 1
          · simp only [hj, hjo, decide_false, decide_true, cond_false, cond_true]
            rw [if_neg (by omega)]
          · simp only [hj, hjo, decide_false, cond_false]
            by_cases e : j = k
            · subst e; simp
            · rw [if_neg (by omega), if_neg e]
theorem get_set (v : α) : ∀ (t : Tr α) (k j : Nat), (t.set k v).get j = if j = k then some v else t.get j
  | nil, k, j => by
    show (single k k v).get j = _
    rw [get_single v k k (Nat.le_refl _) j]; rfl
  | nd x l r, k, j => by
    simp only [set, beqd]
    by_cases hk : k = 0
    · subst hk
      by_cases hj : j = 0 <;> simp [get, hj, beqd]
    · by_cases ho : k % 2 = 1
      · simp only [hk, ho, decide_false, decide_true, cond_false, cond_true, get, beqd]
        by_cases hj : j = 0
        · simp [hj]; omega
        · by_cases hjo : j % 2 = 1
          · simp only [hj, hjo, decide_false, decide_true, cond_false, cond_true]
            rw [get_set v l]
            by_cases e : j = k
            · subst e; simp
            · rw [if_neg (by omega), if_neg e]
          · simp only [hj, hjo, decide_false, cond_false]
            rw [if_neg (by omega)]
      · simp only [hk, ho, decide_false, cond_false, get, beqd]
        by_cases hj : j = 0
        · simp [hj]; omega
        · by_cases hjo : j % 2 = 1
          · simp only [hj, hjo, decide_false, decide_true, cond_false, cond_true]
            rw [if_neg (by omega)]
          · simp only [hj, hjo, decide_false, cond_false]
            rw [get_set v r]
            by_cases e : j = k
            · subst e; simp
            · rw [if_neg (by omega), if_neg e]
theorem get_del : ∀ (t : Tr α) (k j : Nat), (t.del k).get j = if j = k then none else t.get j
  | nil, k, j => by simp [del, get]
  | nd x l r, k, j => by
    simp only [del, beqd]
    by_cases hk : k = 0
    · subst hk
      by_cases hj : j = 0 <;> simp [get, hj, beqd]
    · by_cases ho : k % 2 = 1
      · simp only [hk, ho, decide_false, decide_true, cond_false, cond_true, get, beqd]
        by_cases hj : j = 0
        · simp [hj]; omega
        · by_cases hjo : j % 2 = 1
          · simp only [hj, hjo, decide_false, decide_true, cond_false, cond_true]
            rw [get_del l]
            by_cases e : j = k
            · subst e; simp
            · rw [if_neg (by omega), if_neg e]
          · simp only [hj, hjo, decide_false, cond_false]
            rw [if_neg (by omega)]
      · simp only [hk, ho, decide_false, cond_false, get, beqd]
        by_cases hj : j = 0
        · simp [hj]; omega
        · by_cases hjo : j % 2 = 1
          · simp only [hj, hjo, decide_false, decide_true, cond_false, cond_true]
            rw [if_neg (by omega)]
          · simp only [hj, hjo, decide_false, cond_false]
            rw [get_del r]
            by_cases e : j = k
            · subst e; simp
            · rw [if_neg (by omega), if_neg e]
end Tr

/-! ### Values by names -/
/-- a slice's capacity: known, or what its block has room for (cells an element) -/
inductive Cp where
  | k (c : Nat)
  | u (es : Nat)
/-- what one cell holds -/
inductive C where
  | b (x : Bool)
  | i (k : IntKind) (n : Int)
  | s (x : ByteArray)
  | p (x : Option (Nat × Nat))
  | l (x : Option (Nat × Nat)) (n : Nat) (c : Cp)
  | f (fn : Nat) (first cap : List (Nat × Nat))
  | nf
  | ni
  /-- a map: nil, or its block's name -/
  | m (x : Option Nat)
  /-- a number that is not known: its name, and what is known of it (an operator's code, a number, the answer) -/
  | o (k : Nat) (f : List (Nat × Int × Bool))
  /-- an interface's value: a cell, or a struct of one cell -/
  | d (t : TypeId) (agg : Bool) (x : C)
/-- a cell, or a struct's or an array's cells -/
inductive Wv where
  | c (x : C)
  | a (cs : List C)
/-- a value of a temporary -/
inductive V where
  | w (x : Wv)
  | t (xs : List Wv)
/-- names' blocks, and how many cells these have -/
abbrev Nm := Nat → Option (Nat × Nat)
def Nm.le (r s : Nm) : Prop := ∀ k x, r k = some x → s k = some x
theorem Nm.le_refl (r : Nm) : r.le r := fun _ _ h => h
theorem Nm.le_trans {r s t : Nm} (h : r.le s) (k : s.le t) : r.le t := fun _ _ e => k _ _ (h _ _ e)
def ptrOf (b o : Nat) : Value := .pointer (some ⟨b, o, none⟩)
inductive AR (r : Nm) : List (Nat × Nat) → List Value → Prop where
  | nil : AR r [] []
  | cons {k o b sz xs vs} (h : r k = some (b, sz)) (t : AR r xs vs) : AR r ((k, o) :: xs) (ptrOf b o :: vs)
/-- a number that is not known stands for this one -/
def oV (b sz : Nat) : Int := if sz = 0 then (b : Int) else -(b : Int)
def cmpC : Nat → Int → Int → Option Bool
  | 0, x, y => some (x == y)
  | 1, x, y => some (x != y)
  | 2, x, y => some (decide (x < y))
  | 3, x, y => some (decide (x ≤ y))
  | 4, x, y => some (decide (x > y))
  | 5, x, y => some (decide (x ≥ y))
  | _, _, _ => none
inductive CR (r : Nm) : C → Value → Prop where
  | b (x) : CR r (.b x) (.bool x)
  | i (k n) : CR r (.i k n) (.int k n)
  | s (x) : CR r (.s x) (.string x)
  | p0 : CR r (.p none) (.pointer none)
  | p {k o b sz} (h : r k = some (b, sz)) : CR r (.p (some (k, o))) (ptrOf b o)
  | l0 (n c) : CR r (.l none n (.k c)) (.slice none n c)
  | l {k o b sz} (n c) (h : r k = some (b, sz)) : CR r (.l (some (k, o)) n (.k c)) (.slice (some ⟨b, o, none⟩) n c)
  | u {k o b sz} (n c es) (h : r k = some (b, sz)) (h1 : n ≤ c) (h2 : c ≤ maxLen) (h3 : o + c * es = sz) : CR r (.l (some (k, o)) n (.u es)) (.slice (some ⟨b, o, none⟩) n c)
  | f (fn) {a c va vc} (ha : AR r a va) (hc : AR r c vc) : CR r (.f fn a c) (.func (.func fn) va.toArray vc.toArray)
  | nf : CR r .nf .nilFunc
  | ni : CR r .ni .nilIface
  | m0 : CR r (.m none) (.map none)
  | m {k b sz} (h : r k = some (b, sz)) : CR r (.m (some k)) (.map (some b))
  | o {k b sz f} (h : r k = some (b, sz)) (hf : ∀ x ∈ f, cmpC x.1 (oV b sz) x.2.1 = some x.2.2) : CR r (.o k f) (.int .i64 (oV b sz))
  | d (t) {c v} (h : CR r c v) : CR r (.d t false c) (.iface t v)
  | da (t) {c v} (h : CR r c v) : CR r (.d t true c) (.iface t (.agg #[v]))
inductive CsR (r : Nm) : List C → List Value → Prop where
  | nil : CsR r [] []
  | cons {c v cs vs} (h : CR r c v) (t : CsR r cs vs) : CsR r (c :: cs) (v :: vs)
inductive WR (r : Nm) : Wv → Value → Prop where
  | c {x v} (h : CR r x v) : WR r (.c x) v
  | a {cs vs} (h : CsR r cs vs) : WR r (.a cs) (.agg vs.toArray)
inductive WsR (r : Nm) : List Wv → List Value → Prop where
  | nil : WsR r [] []
  | cons {c v cs vs} (h : WR r c v) (t : WsR r cs vs) : WsR r (c :: cs) (v :: vs)
inductive VR (r : Nm) : V → Value → Prop where
  | w {x v} (h : WR r x v) : VR r (.w x) v
  | t {xs vs} (h : WsR r xs vs) : VR r (.t xs) (.tuple vs.toArray)
section mono
variable {r s : Nm} (h : r.le s)
include h
theorem AR.mono {x v} (k : AR r x v) : AR s x v := by
  induction k with
  | nil => exact .nil
  | cons e _ ih => exact .cons (h _ _ e) ih
theorem CR.mono {x v} (k : CR r x v) : CR s x v := by
  induction k with
  | b => exact .b _
  | i => exact .i _ _
  | s => exact .s _
  | p0 => exact .p0
  | p e => exact .p (h _ _ e)
  | l0 => exact .l0 _ _
  | l n c e => exact .l n c (h _ _ e)
  | u n c es e h1 h2 h3 => exact .u n c es (h _ _ e) h1 h2 h3
  | f fn ha hc => exact .f fn (ha.mono h) (hc.mono h)
  | nf => exact .nf
  | ni => exact .ni
  | m0 => exact .m0
  | m e => exact .m (h _ _ e)
  | o e hf => exact .o (h _ _ e) hf
  | d t _ ih => exact .d t ih
  | da t _ ih => exact .da t ih
theorem CsR.mono {x v} (k : CsR r x v) : CsR s x v := by
  induction k with
  | nil => exact .nil
  | cons e _ ih => exact .cons (e.mono h) ih
theorem WR.mono {x v} (k : WR r x v) : WR s x v := by
  cases k with
  | c e => exact .c (e.mono h)
  | a e => exact .a (e.mono h)
theorem WsR.mono {x v} (k : WsR r x v) : WsR s x v := by
  induction k with
  | nil => exact .nil
  | cons e _ ih => exact .cons (e.mono h) ih
theorem VR.mono {x v} (k : VR r x v) : VR s x v := by
  cases k with
  | w e => exact .w (e.mono h)
  | t e => exact .t (e.mono h)
end mono

/-! ### Memory by names -/
/-- blocks that are no cells: a map's entries (keys, what is there); a range over a string (how far it is) -/
inductive KdB where
  | mp (l : List (C × C))
  | it (s : ByteArray) (pos : Nat)
structure Bk where
  e : TypeId
  n : Nat
  /-- what a cell holds that u does not name: this pattern, again and again -/
  d : List C
  u : Tr C
  mp : Option KdB
def Bk.cell (b : Bk) (j : Nat) : C := match b.u.get j with
  | some c => c
  | none => b.d.getD (j % b.d.length) .ni
abbrev Hp := Tr Bk
/-- what a block holds, as far as it is known -/
inductive MR (r : Nm) : List (C × C) → List MapEntry → Prop where
  | nil : MR r [] []
  | cons {k c e l es} (hk : CR r k e.key) (h : CR r c e.val) (t : MR r l es) : MR r ((k, c) :: l) (e :: es)
theorem MR.mono {r s : Nm} (h : r.le s) {l es} (k : MR r l es) : MR s l es := by
  induction k with
  | nil => exact .nil
  | cons hk e _ ih => exact .cons (hk.mono h) (e.mono h) ih
def KR (r : Nm) (w : World) (b : Nat) : KdB → Prop
  | .mp l => ∃ es clk, w.heap[b]? = some (.map es clk) ∧ MR r l es.toList
  | .it s p => w.heap[b]? = some (.stringIter s p)
theorem KR.mono {r s : Nm} (h : r.le s) {w : World} {b : Nat} {x : KdB} (k : KR r w b x) : KR s w b x := by
  cases x with
  | mp l => obtain ⟨es, clk, h1, h2⟩ := k; exact ⟨es, clk, h1, h2.mono h⟩
  | it t p => exact k
theorem KR.keep {r : Nm} {w w' : World} {b : Nat} {x : KdB} (k : KR r w b x) (h : w'.heap[b]? = w.heap[b]?) : KR r w' b x := by
  cases x with
  | mp l => obtain ⟨es, clk, h1, h2⟩ := k; exact ⟨es, clk, h.trans h1, h2⟩
  | it t p => exact h.trans k
theorem KR.lt {r : Nm} {w : World} {b : Nat} {x : KdB} (k : KR r w b x) : b < w.heap.size := by
  cases x with
  | mp l => obtain ⟨es, clk, h1, _⟩ := k; exact (Array.getElem?_eq_some_iff.1 h1).1
  | it t p => exact (Array.getElem?_eq_some_iff.1 k).1
theorem KR.frozen {r : Nm} {w : World} {b : Nat} {x : KdB} (k : KR r w b x) (o : Nat) : w.frozen? ⟨b, o, none⟩ = false := by
  cases x with
  | mp l => obtain ⟨es, clk, h1, _⟩ := k; simp [World.frozen?, h1]
  | it t p => have h1 : w.heap[b]? = some (.stringIter t p) := k; simp [World.frozen?, h1]
structure BR (r : Nm) (w : World) (B : Bk) (b sz : Nat) : Prop where
  mx : ∀ x, B.mp = some x → B.n = 0 ∧ KR r w b x
  ex : B.mp = none → ∃ cs, w.heap[b]? = some (.cells cs B.e (0, 0)) ∧ cs.size = sz ∧ B.n ≤ sz ∧ ∀ j, j < B.n → ∃ v, cs[j]? = some v ∧ CR r (B.cell j) v
/-- what a memory by names is in a world -/
structure RelH (r : Nm) (H : Hp) (w : World) : Prop where
  at_ : ∀ k B, H.get k = some B → ∃ b sz, r k = some (b, sz) ∧ BR r w B b sz
  inj : ∀ k j B D b s t, H.get k = some B → H.get j = some D → r k = some (b, s) → r j = some (b, t) → k = j
/-- what else a call leaves as it was -/
structure Fr (r : Nm) (H : Hp) (w w' : World) : Prop where
  os : w'.os = w.os
  tape : w'.tape = w.tape
  output : w'.output = w.output
  size : w.heap.size ≤ w'.heap.size
  block : ∀ b, b < w.heap.size → (∀ k B sz, H.get k = some B → r k ≠ some (b, sz)) → w'.heap[b]? = w.heap[b]?
theorem BR.mono {r s : Nm} {w : World} {B : Bk} {b sz : Nat} (h : r.le s) (k : BR r w B b sz) : BR s w B b sz := by
  refine ⟨fun l hl => ?_, fun hm => ?_⟩
  · exact ⟨(k.mx l hl).1, (k.mx l hl).2.mono h⟩
  · obtain ⟨cs, h1, h2, h3, h4⟩ := k.ex hm
    exact ⟨cs, h1, h2, h3, fun j hj => by obtain ⟨v, a, c⟩ := h4 j hj; exact ⟨v, a, c.mono h⟩⟩
theorem BR.lt {r : Nm} {w : World} {B : Bk} {b sz : Nat} (k : BR r w B b sz) : b < w.heap.size := by
  cases hm : B.mp with
  | none => obtain ⟨cs, h1, _⟩ := k.ex hm; exact (Array.getElem?_eq_some_iff.1 h1).1
  | some l => exact (k.mx l hm).2.lt
theorem BR.nomap {r : Nm} {w : World} {B : Bk} {b sz : Nat} (k : BR r w B b sz) (h : 0 < B.n) : B.mp = none := by
  cases hm : B.mp with
  | none => rfl
  | some l => have := (k.mx l hm).1; omega
theorem BR.keep {r : Nm} {w w' : World} {B : Bk} {b sz : Nat} (k : BR r w B b sz) (h : w'.heap[b]? = w.heap[b]?) : BR r w' B b sz := by
  refine ⟨fun l hl => ?_, fun hm => ?_⟩
  · exact ⟨(k.mx l hl).1, (k.mx l hl).2.keep h⟩
  · obtain ⟨cs, h1, h2⟩ := k.ex hm
    exact ⟨cs, h.trans h1, h2⟩
theorem Fr.refl (r : Nm) (H : Hp) (w : World) : Fr r H w w := ⟨rfl, rfl, rfl, Nat.le_refl _, fun _ _ _ => rfl⟩
theorem Fr.drew {r : Nm} {H : Hp} {w w' : World} (h : Fr r H w w') : Fr r H w w'.drew := ⟨h.os, h.tape, h.output, h.size, h.block⟩
end Go.Proofs.YtgilghiegfgjeaaGreatDoor
end
section
set_option linter.unusedVariables false
set_option linter.unusedSimpArgs false
/- Running closed code: operations that touch no memory. -/
namespace Go.Proofs.YtgilghiegfgjeaaGreatDoor
open Go.RowKit

/-! ### Constants -/
def cOf : Value → Option C
  | .bool b => some (.b b)
  | .int k n => some (.i k n)
  | .string s => some (.s s)
  | .pointer none => some (.p none)
  | .slice none n c => some (.l none n (.k c))
  | .nilFunc => some .nf
  | .nilIface => some .ni
  | _ => none
theorem cOf_ok {r : Nm} {v : Value} {c : C} (h : cOf v = some c) : CR r c v := by
  unfold cOf at h
  split at h <;> (try (injection h with h; subst h)) <;> first | exact .b _ | exact .i _ _ | exact .s _ | exact .p0 | exact .l0 _ _ | exact .nf | exact .ni | cases h
def csOf : List Value → Option (List C)
  | [] => some []
  | v :: vs => match cOf v, csOf vs with
    | some c, some cs => some (c :: cs)
    | _, _ => none
theorem csOf_ok {r : Nm} : ∀ {vs : List Value} {cs : List C}, csOf vs = some cs → CsR r cs vs
  | [], cs, h => by injection h with h; subst h; exact .nil
  | v :: vs, cs, h => by
    unfold csOf at h
    split at h
    · rename_i c cs' h1 h2
      injection h with h
      subst h
      exact .cons (cOf_ok h1) (csOf_ok h2)
    · cases h
def wOf : Value → Option Wv
  | .agg cs => (csOf cs.toList).map .a
  | v => (cOf v).map .c
theorem wOf_ok {r : Nm} {v : Value} {x : Wv} (h : wOf v = some x) : WR r x v := by
  unfold wOf at h
  split at h
  · rename_i cs
    cases hc : csOf cs.toList with
    | none => rw [hc] at h; cases h
    | some l =>
      rw [hc] at h
      injection h with h
      subst h
      have := WR.a (csOf_ok (r := r) hc)
      simpa using this
  · cases hc : cOf v with
    | none => rw [hc] at h; cases h
    | some l =>
      rw [hc] at h
      injection h with h
      subst h
      exact .c (cOf_ok hc)
def vOf : Value → Option V
  | .tuple vs => if vs.size = 0 then some (.t []) else none
  | v => (wOf v).map .w
theorem vOf_ok {r : Nm} {v : Value} {x : V} (h : vOf v = some x) : VR r x v := by
  unfold vOf at h
  split at h
  · rename_i vs
    split at h
    · rename_i hz
      injection h with h
      subst h
      have : vs = #[] := Array.eq_empty_of_size_eq_zero hz
      subst this
      exact .t .nil
    · cases h
  · cases hc : wOf v with
    | none => rw [hc] at h; cases h
    | some l =>
      rw [hc] at h
      injection h with h
      subst h
      exact .w (wOf_ok hc)
/-! ### Operands -/
def evO (tm : Tr V) : Operand → Option V
  | .tmp t => tm.get t
  | .const v => vOf v
  | .func f => some (.w (.c (.f f [] [])))
  | .global _ => none
/-- a frame -/
structure RelA (r : Nm) (tm : Tr V) (n : Nat) (a : Act) : Prop where
  size : a.tmps.size = n
  defers : a.defers = []
  val : ∀ i v, tm.get i = some v → ∃ u, a.tmps[i]? = some u ∧ VR r v u
theorem evO_ok {r : Nm} {tm : Tr V} {n : Nat} {a : Act} (h : RelA r tm n a) {x : Operand} {v : V} (e : evO tm x = some v) : VR r v (a.eval x) := by
  cases x with
  | tmp t =>
    obtain ⟨u, h1, h2⟩ := h.val t v e
    show VR r v (a.tmps.getD t undef)
    rw [Array.getD_eq_getD_getElem?, h1]
    exact h2
  | const u => exact vOf_ok e
  | func f =>
    injection e with e
    subst e
    exact .w (.c (.f f .nil .nil))
  | global g => cases e
theorem RelA.mono {r s : Nm} {tm : Tr V} {n : Nat} {a : Act} (h : RelA r tm n a) (k : r.le s) : RelA s tm n a :=
  ⟨h.size, h.defers, fun i v e => by obtain ⟨u, h1, h2⟩ := h.val i v e; exact ⟨u, h1, h2.mono k⟩⟩
theorem RelA.put {r : Nm} {tm : Tr V} {n : Nat} {a : Act} (h : RelA r tm n a) {d : Nat} (hd : d < n) {v : V} {u : Value} (hv : VR r v u) : RelA r (tm.set d v) n (a.put (some d) u) := by
  refine ⟨by simp [Act.put, h.size], h.defers, fun i x hx => ?_⟩
  rw [Tr.get_set] at hx
  show ∃ y, (a.tmps.setIfInBounds d u)[i]? = some y ∧ VR r x y
  by_cases e : i = d
  · subst e
    rw [if_pos rfl] at hx
    injection hx with hx
    subst hx
    exact ⟨u, by simp [h.size, hd], hv⟩
  · rw [if_neg e] at hx
    obtain ⟨y, h1, h2⟩ := h.val i x hx
    exact ⟨y, by rw [Array.getElem?_setIfInBounds_ne (fun e' => e e'.symm)]; exact h1, h2⟩
theorem RelA.lose {r : Nm} {tm : Tr V} {n : Nat} {a : Act} (h : RelA r tm n a) (d : Nat) (u : Value) : RelA r (tm.del d) n (a.put (some d) u) := by
  refine ⟨by simp [Act.put, h.size], h.defers, fun i x hx => ?_⟩
  rw [Tr.get_del] at hx
  show ∃ y, (a.tmps.setIfInBounds d u)[i]? = some y ∧ VR r x y
  by_cases e : i = d
  · rw [if_pos e] at hx; cases hx
  · rw [if_neg e] at hx
    obtain ⟨y, h1, h2⟩ := h.val i x hx
    exact ⟨y, by rw [Array.getElem?_setIfInBounds_ne (fun e' => e e'.symm)]; exact h1, h2⟩
/-! ### Types -/
def szOf (P : Program) (t : TypeId) : Option Nat := (P.info? t).map (·.size)
def aggB (P : Program) (t : TypeId) : Option Bool := match P.underlying t with
  | some (.struct _) => some true
  | some (.array _ _) => some true
  | some _ => some false
  | none => none
theorem run_szOf {P : Program} {t : TypeId} {n : Nat} (h : szOf P t = some n) (w : World) : (sizeOf t).run P w = .ok n w := by
  unfold szOf at h
  cases hi : P.info? t with
  | none => rw [hi] at h; cases h
  | some i =>
    rw [hi] at h
    injection h with h
    subst h
    simp [sizeOf, typeInfo, hi, go_sem]
theorem run_aggB {P : Program} {t : TypeId} {b : Bool} (h : aggB P t = some b) (w : World) : (isAgg t).run P w = .ok b w := by
  unfold aggB at h
  cases hu : P.underlying t with
  | none => rw [hu] at h; cases h
  | some d =>
    rw [hu] at h
    have := run_underlying hu w
    cases d <;> simp at h <;> subst h <;> simp [isAgg, go_sem, this]
theorem CsR.length {r : Nm} {cs : List C} {vs : List Value} (h : CsR r cs vs) : vs.length = cs.length := by
  induction h with
  | nil => rfl
  | cons _ _ ih => simp [ih]
theorem CsR.get {r : Nm} {cs : List C} {vs : List Value} (h : CsR r cs vs) : ∀ (i : Nat) (c : C), cs[i]? = some c → ∃ v, vs[i]? = some v ∧ CR r c v := by
  induction h with
  | nil => intro i c h; simp at h
  | cons h t ih =>
    intro i c hc
    cases i with
    | zero => simp at hc; subst hc; exact ⟨_, rfl, h⟩
    | succ i => simpa using ih i c (by simpa using hc)
theorem CsR.drop {r : Nm} {cs : List C} {vs : List Value} (h : CsR r cs vs) : ∀ n, CsR r (cs.drop n) (vs.drop n) := by
  induction h with
  | nil => intro n; simp; exact .nil
  | cons h t ih =>
    intro n
    cases n with
    | zero => exact .cons h t
    | succ n => simpa using ih n
theorem CsR.take {r : Nm} {cs : List C} {vs : List Value} (h : CsR r cs vs) : ∀ n, CsR r (cs.take n) (vs.take n) := by
  induction h with
  | nil => intro n; simp; exact .nil
  | cons h t ih =>
    intro n
    cases n with
    | zero => exact .nil
    | succ n => simpa using .cons h (ih n)
theorem CsR.append {r : Nm} {cs ds : List C} {vs us : List Value} (h : CsR r cs vs) (k : CsR r ds us) : CsR r (cs ++ ds) (vs ++ us) := by
  induction h with
  | nil => exact k
  | cons h t ih => exact .cons h ih
/-- a part of a struct's or an array's cells -/
def partC (P : Program) (t : TypeId) (cs : List C) (off : Nat) : Option Wv := match aggB P t, szOf P t with
  | some true, some n => some (.a ((cs.drop off).take n))
  | some false, some _ => (cs[off]?).map .c
  | _, _ => none
theorem partC_ok {P : Program} {r : Nm} {t : TypeId} {cs : List C} {vs : List Value} {off : Nat} {x : Wv} (h : CsR r cs vs) (e : partC P t cs off = some x) :
    ∃ u, WR r x u ∧ ∀ w, (part t vs.toArray off).run P w = .ok u w := by
  unfold partC at e
  split at e
  · rename_i n h1 h2
    injection e with e
    subst e
    refine ⟨_, .a ((h.drop off).take n), fun w => ?_⟩
    have e1 := run_aggB h1 w
    have e2 := run_szOf h2 w
    simp [part, go_sem, e1, e2, List.extract_eq_take_drop]
  · rename_i n h1 h2
    cases hc : cs[off]? with
    | none => rw [hc] at e; cases e
    | some c =>
      rw [hc] at e
      injection e with e
      subst e
      obtain ⟨v, hv, hr⟩ := h.get off c hc
      refine ⟨v, .c hr, fun w => ?_⟩
      have e1 := run_aggB h1 w
      simp [part, go_sem, e1, hv]
  · cases e
end Go.Proofs.YtgilghiegfgjeaaGreatDoor
end
section
set_option linter.unusedVariables false
set_option linter.unusedSimpArgs false
/- Running closed code: operators on numbers, truth values, strings, and equality. -/
namespace Go.Proofs.YtgilghiegfgjeaaGreatDoor
open Go.RowKit

/-! ### Equality -/
def eqFs (rc : TypeId → Wv → Wv → Option Bool) (P : Program) : List Field → List C → List C → Option Bool
  | [], _, _ => some true
  | f :: fs, xs, ys => if f.name = "_" then none else
    match partC P f.type xs f.offset with
    | none => none
    | some a => match partC P f.type ys f.offset with
      | none => none
      | some b => match rc f.type a b with
        | none => none
        | some false => some false
        | some true => eqFs rc P fs xs ys
def eqW (P : Program) : Nat → TypeId → Wv → Wv → Option Bool
  | 0, _, _, _ => none
  | m + 1, t, x, y => match P.underlying t with
    | some .bool => match x, y with
      | .c (.b a), .c (.b b) => some (a == b)
      | _, _ => none
    | some (.int _) => match x, y with
      | .c (.i k a), .c (.i j b) => if k = j then some (a == b) else none
      | _, _ => none
    | some .string => match x, y with
      | .c (.s a), .c (.s b) => some (a.toList == b.toList)
      | _, _ => none
    | some (.struct fs) => match x, y with
      | .a xs, .a ys => if P.stoodInHeld t then none else eqFs (eqW P m) P fs.toList xs ys
      | _, _ => none
    | _ => none
theorem eqFs_ok {P : Program} {r : Nm} {rc : TypeId → Wv → Wv → Option Bool} {d : Nat} (hrc : ∀ t x y b u v, rc t x y = some b → WR r x u → WR r y v → ∀ w, (Op.equalIn d t u v).run P w = .ok b w)
    {xs ys : List C} {us vs : List Value} (hx : CsR r xs us) (hy : CsR r ys vs) : ∀ (fs : List Field) (b : Bool), eqFs rc P fs xs ys = some b → ∀ w, (Op.eqFields d us.toArray vs.toArray fs).run P w = .ok b w := by
  intro fs
  induction fs with
  | nil => intro b h w; injection h with h; subst h; simp [Op.eqFields]
  | cons f fs ih =>
    intro b h w
    unfold eqFs at h
    split at h
    · cases h
    · rename_i hn
      split at h
      · cases h
      · rename_i a ha
        split at h
        · cases h
        · rename_i c hc
          obtain ⟨u, hu, ru⟩ := partC_ok hx ha
          obtain ⟨v, hv, rv⟩ := partC_ok hy hc
          split at h
          · cases h
          · rename_i he
            injection h with h
            subst h
            have hr := hrc _ _ _ _ _ _ he hu hv
            simp only [Op.eqFields, ne_eq, hn, not_false_eq_true, if_true, Sem.run_bind, ru, rv, hr, Result.andThen_ok, Bool.not_false, Sem.run_pure]
          · rename_i he
            have hr := hrc _ _ _ _ _ _ he hu hv
            simp only [Op.eqFields, ne_eq, hn, not_false_eq_true, if_true, Sem.run_bind, ru, rv, hr, Result.andThen_ok, Bool.not_true, Bool.false_eq_true, if_false]
            exact ih b h w
theorem eqW_ok {P : Program} {r : Nm} : ∀ (m d : Nat), m ≤ d → ∀ t x y b u v, eqW P m t x y = some b → WR r x u → WR r y v → ∀ w, (Op.equalIn d t u v).run P w = .ok b w := by
  intro m
  induction m with
  | zero => intro d _ t x y b u v h; cases h
  | succ m ih =>
    intro d hd t x y b u v h hu hv w
    obtain ⟨d, rfl⟩ : ∃ e, d = e + 1 := ⟨d - 1, by omega⟩
    unfold eqW at h
    split at h
    · rename_i ht
      split at h
      · injection h with h
        subst h
        cases hu with
        | c hu => cases hu; cases hv with
          | c hv => cases hv; exact run_equalIn_bool' w d t _ _ ht
      · cases h
    · rename_i ht
      split at h
      · split at h
        · rename_i k a j c hk
          subst hk
          injection h with h
          subst h
          cases hu with
          | c hu => cases hu; cases hv with
            | c hv => cases hv; exact run_equalIn_int w d t _ _ _ _ ht
        · cases h
      · cases h
    · rename_i ht
      split at h
      · injection h with h
        subst h
        cases hu with
        | c hu => cases hu; cases hv with
          | c hv => cases hv; exact run_equalIn_string w d t _ _ ht
      · cases h
    · rename_i fs ht
      split at h
      · split at h
        · cases h
        · rename_i xs ys hs
          cases hu with
          | a hu => cases hv with
            | a hv =>
              have hf : P.fieldsOf t = fs := by unfold Program.fieldsOf; rw [ht]
              rw [run_equalIn_struct w d t _ _ (by rw [hf]; exact ht) (by simpa using hs), hf]
              exact eqFs_ok (fun t x y b u v => ih d (by omega) t x y b u v) hu hv fs.toList b h w
      · cases h
    · cases h
/-! ### Operators -/
def bitsI (op : BinOp) (k : IntKind) (x y : Int) : Option Int := match op with
  | .and => some (k.wrap (BitVec.ofInt k.bits x &&& BitVec.ofInt k.bits y).toNat)
  | .or => some (k.wrap (BitVec.ofInt k.bits x ||| BitVec.ofInt k.bits y).toNat)
  | .xor => some (k.wrap (BitVec.ofInt k.bits x ^^^ BitVec.ofInt k.bits y).toNat)
  | .andNot => some (k.wrap (BitVec.ofInt k.bits x &&& ~~~BitVec.ofInt k.bits y).toNat)
  | _ => none
def intBin (op : BinOp) (k : IntKind) (x y : Int) : Option C := match op with
  | .add => some (.i k (k.wrap (x + y)))
  | .sub => some (.i k (k.wrap (x - y)))
  | .mul => some (.i k (k.wrap (x * y)))
  | .quo => if y = 0 then none else some (.i k (k.wrap (x.tdiv y)))
  | .rem => if y = 0 then none else some (.i k (x.tmod y))
  | .eql => some (.b (x == y))
  | .neq => some (.b (x != y))
  | .lss => some (.b (x < y))
  | .leq => some (.b (x ≤ y))
  | .gtr => some (.b (x > y))
  | .geq => some (.b (x ≥ y))
  | .shl => none
  | .shr => none
  | op => (bitsI op k x y).map (.i k)
def shiftI (op : BinOp) (k : IntKind) (x y : Int) : Option C := if y < 0 then none else match op with
  | .shl => some (.i k (k.wrap (x * 2 ^ min y.toNat k.bits)))
  | .shr => some (.i k (x.fdiv (2 ^ min y.toNat k.bits)))
  | _ => none
def isShift : BinOp → Bool
  | .shl => true
  | .shr => true
  | _ => false
def strBin (op : BinOp) (x y : ByteArray) : Option C :=
  match op with
  | .add => if x.size + y.size ≤ 1000000 then some (.s (x ++ y)) else none
  | .eql => some (.b (x.toList == y.toList))
  | .neq => some (.b (!(x.toList == y.toList)))
  | _ => none
def eqB (op : BinOp) (b : Bool) : Option C := match op with
  | .eql => some (.b b)
  | .neq => some (.b (!b))
  | _ => none
def codeB : BinOp → Nat
  | .eql => 0
  | .neq => 1
  | .lss => 2
  | .leq => 3
  | .gtr => 4
  | .geq => 5
  | _ => 9
/-- what is known of a number that is not known -/
def lookF : List (Nat × Int × Bool) → Nat → Int → Option Bool
  | [], _, _ => none
  | (c, n, b) :: l, d, m => if c = d ∧ n = m then some b else lookF l d m
theorem lookF_mem : ∀ {l : List (Nat × Int × Bool)} {d : Nat} {m : Int} {b : Bool}, lookF l d m = some b → (d, m, b) ∈ l
  | [], _, _, _, h => by cases h
  | (c, n, b) :: l, d, m, b', h => by
    unfold lookF at h
    split at h
    · rename_i hc
      injection h with h
      obtain ⟨rfl, rfl⟩ := hc
      subst h
      exact List.mem_cons_self
    · exact List.mem_cons_of_mem _ (lookF_mem h)
def opBin (P : Program) (op : BinOp) (t : TypeId) (x y : V) : Option C := match x, y with
  | .w (.c (.i k a)), .w (.c (.i j b)) => if isShift op then shiftI op k a b else if k = j then intBin op k a b else none
  | .w (.c (.s a)), .w (.c (.s b)) => strBin op a b
  | .w (.c (.b a)), .w (.c (.b b)) => match P.underlying t with
    | some .bool => eqB op (a == b)
    | _ => none
  | .w (.c (.p a)), .w (.c (.p none)) => match P.underlying t with
    | some (.pointer _) => eqB op a.isNone
    | _ => none
  | .w (.c (.p none)), .w (.c (.p (some _))) => match P.underlying t with
    | some (.pointer _) => eqB op false
    | _ => none
  | .w (.c (.l a _ _)), .w (.c (.l none 0 (.k 0))) => match P.underlying t with
    | some (.slice _) => eqB op a.isNone
    | _ => none
  | .w (.c .nf), .w (.c .nf) => match P.underlying t with
    | some (.func _ _ _) => eqB op true
    | _ => none
  | .w (.c (.f _ _ _)), .w (.c .nf) => match P.underlying t with
    | some (.func _ _ _) => eqB op false
    | _ => none
  | .w (.a xs), .w (.a ys) => if P.eqGuardType P.depth t then none else match eqW P 12 t (.a xs) (.a ys) with
    | some b => eqB op b
    | none => none
  | .w (.c (.o _ f)), .w (.c (.i .i64 n)) => (lookF f (codeB op) n).map .b
  | _, _ => none
theorem bitsI_ok {P : Program} {op : BinOp} {k : IntKind} {x y z : Int} (h : bitsI op k x y = some z) (w : World) : (Op.intBits op k x y).run P w = .ok (.int k z) w := by
  unfold bitsI at h
  split at h <;> first | (injection h with h; subst h; simp [Op.intBits]) | cases h
theorem intBin_ok {P : Program} {r : Nm} {op : BinOp} {t : TypeId} {k : IntKind} {x y : Int} {c : C} (h : intBin op k x y = some c) : ∃ u, CR r c u ∧ ∀ w, (binOp op t (.int k x) (.int k y)).run P w = .ok u w := by
  unfold intBin at h
  split at h
  case h_14 =>
    cases hb : bitsI _ k x y with
    | none => rw [hb] at h; cases h
    | some z =>
      rw [hb] at h
      injection h with h
      subst h
      refine ⟨_, .i k z, fun w => ?_⟩
      have := bitsI_ok (P := P) hb w
      unfold bitsI at hb
      split at hb <;> first | (simpa [binOp] using this) | cases hb
  all_goals first
    | (injection h with h; subst h; refine ⟨_, by first | exact .i _ _ | exact .b _, fun w => ?_⟩; simp [binOp, Op.intArith, Op.intCmp, go_sem]; done)
    | (split at h
       · cases h
       · rename_i hz
         injection h with h; subst h; refine ⟨_, .i _ _, fun w => ?_⟩; simp [binOp, Op.intDiv, hz, go_sem])
    | cases h
theorem cmpC_ok {op : BinOp} {x y : Int} {b : Bool} (h : cmpC (codeB op) x y = some b) : intBin op .i64 x y = some (.b b) := by
  cases op <;> simp [codeB, cmpC] at h <;> subst h <;> simp [intBin]
theorem shiftI_ok {P : Program} {r : Nm} {op : BinOp} {t : TypeId} {k j : IntKind} {x y : Int} {c : C} (hs : isShift op = true) (h : shiftI op k x y = some c) : ∃ u, CR r c u ∧ ∀ w, (binOp op t (.int k x) (.int j y)).run P w = .ok u w := by
  unfold shiftI at h
  split at h
  · cases h
  · rename_i hz
    split at h
    · injection h with h; subst h; refine ⟨_, .i _ _, fun w => ?_⟩; simp [binOp, Op.shift, hz, go_sem]
    · injection h with h; subst h; refine ⟨_, .i _ _, fun w => ?_⟩; simp [binOp, Op.shift, hz, go_sem]
    · cases h
end Go.Proofs.YtgilghiegfgjeaaGreatDoor
end
section
set_option linter.unusedVariables false
set_option linter.unusedSimpArgs false
/- Running closed code: binary and unary operators, conversions, addresses, parts; all operations that touch no memory. -/
namespace Go.Proofs.YtgilghiegfgjeaaGreatDoor
open Go.RowKit

section
variable {P : Program} (w : World) (d : Nat) {t e : TypeId}
theorem eq_ptr_nil (ht : P.underlying t = some (.pointer e)) (a : Option Addr) : (Op.equalIn (d + 1) t (.pointer a) (.pointer none)).run P w = .ok a.isNone w := by
  cases a <;> simp [Op.equalIn, run_underlying ht]
theorem eq_nil_ptr (ht : P.underlying t = some (.pointer e)) (a : Addr) : (Op.equalIn (d + 1) t (.pointer none) (.pointer (some a))).run P w = .ok false w := by
  simp [Op.equalIn, run_underlying ht]
theorem eq_sl_nil (ht : P.underlying t = some (.slice e)) (a : Option Addr) (n c : Nat) : (Op.equalIn (d + 1) t (.slice a n c) (.slice none 0 0)).run P w = .ok a.isNone w := by
  cases a <;> simp [Op.equalIn, run_underlying ht]
theorem eq_fn_nil {x y : Array TypeId} {z : Bool} (ht : P.underlying t = some (.func x y z)) : (Op.equalIn (d + 1) t .nilFunc .nilFunc).run P w = .ok true w := by
  simp [Op.equalIn, run_underlying ht]
theorem eq_fn_some {x y : Array TypeId} {z : Bool} (ht : P.underlying t = some (.func x y z)) (f : Fn) (a c : Array Value) : (Op.equalIn (d + 1) t (.func f a c) .nilFunc).run P w = .ok false w := by
  simp [Op.equalIn, run_underlying ht]
end
theorem eqB_ok {op : BinOp} {b : Bool} {c : C} (h : eqB op b = some c) : (op = .eql ∧ c = .b b) ∨ (op = .neq ∧ c = .b (!b)) := by
  unfold eqB at h
  split at h
  · injection h with h; exact .inl ⟨rfl, h.symm⟩
  · injection h with h; exact .inr ⟨rfl, h.symm⟩
  · cases h
/-- no aggregates, no interface values: the guard passes -/
def plainV : Value → Bool
  | .agg _ => false
  | .nilIface => false
  | _ => true
theorem guard_plain {P : Program} {op : BinOp} {t : TypeId} {x y : Operand} {u v : Value} (h : plainV u = true) (w : World) : (eqGuard op t x y u v).run P w = .ok () w := by
  cases u <;> simp [plainV] at h <;> cases op <;> simp [eqGuard]
theorem binOp_equal {P : Program} {op : BinOp} {t : TypeId} {u v : Value} {b : Bool} {c : C} {r : Nm} (h : eqB op b = some c) (hq : ∀ w, (Op.equal t u v).run P w = .ok b w)
    (hb1 : binOp .eql t u v = (do pure (.bool (← Op.equal t u v)))) (hb2 : binOp .neq t u v = (do pure (.bool (!(← Op.equal t u v))))) : ∃ z, CR r c z ∧ ∀ w, (binOp op t u v).run P w = .ok z w := by
  rcases eqB_ok h with ⟨rfl, rfl⟩ | ⟨rfl, rfl⟩
  · exact ⟨_, .b _, fun w => by rw [hb1]; simp [hq w]⟩
  · exact ⟨_, .b _, fun w => by rw [hb2]; simp [hq w]⟩
set_option maxHeartbeats 1000000 in
theorem opBin_ok {P : Program} {r : Nm} {op : BinOp} {t : TypeId} {x y : V} {c : C} {u v : Value} (h : opBin P op t x y = some c) (hu : VR r x u) (hv : VR r y v) :
    ∃ z, CR r c z ∧ ∀ (ox oy : Operand) (w : World), ((do eqGuard op t ox oy u v; binOp op t u v) : Sem Value).run P w = .ok z w := by
  have fin : plainV u = true → (∃ z, CR r c z ∧ ∀ w, (binOp op t u v).run P w = .ok z w) → ∃ z, CR r c z ∧ ∀ (ox oy : Operand) (w : World), ((do eqGuard op t ox oy u v; binOp op t u v) : Sem Value).run P w = .ok z w := by
    rintro hp ⟨z, h1, h2⟩
    exact ⟨z, h1, fun ox oy w => by rw [Sem.run_bind, guard_plain hp, Result.andThen_ok]; exact h2 w⟩
  unfold opBin at h
  split at h
  · cases hu with | w hu => cases hu with | c hu => cases hu; cases hv with | w hv => cases hv with | c hv => cases hv; exact fin rfl (by
      split at h
      · rename_i hs; exact shiftI_ok hs h
      · split at h
        · rename_i hk; subst hk; exact intBin_ok h
        · cases h)
  · cases hu with | w hu => cases hu with | c hu => cases hu; cases hv with | w hv => cases hv with | c hv => cases hv; exact fin rfl (by
      unfold strBin at h
      split at h
      · split at h
        · rename_i hl
          injection h with h
          subst h
          refine ⟨_, .s _, fun w => ?_⟩
          have hm : IntKind.i64.max = 9223372036854775807 := by decide
          simp only [binOp, Op.stringOp, hm]
          rw [if_neg (by omega)]; rfl
        · cases h
      · injection h with h; subst h; exact ⟨_, .b _, fun w => by simp [binOp, Op.stringOp]⟩
      · injection h with h; subst h; exact ⟨_, .b _, fun w => by simp [binOp, Op.stringOp]⟩
      · cases h)
  · cases hu with | w hu => cases hu with | c hu => cases hu; cases hv with | w hv => cases hv with | c hv => cases hv; exact fin rfl (by
      split at h
      · rename_i ht; exact binOp_equal h (fun w => run_equal_bool w t _ _ ht) rfl rfl
      · cases h)
  · cases hv with | w hv => cases hv with | c hv => cases hv; cases hu with | w hu => cases hu with | c hu => exact fin (by cases hu <;> rfl) (by
      split at h
      · rename_i e ht
        cases hu with
        | p0 => exact binOp_equal h (fun w => eq_ptr_nil w 9999 ht none) rfl rfl
        | p k => exact binOp_equal h (fun w => eq_ptr_nil w 9999 ht _) rfl rfl
      · cases h)
  · cases hu with | w hu => cases hu with | c hu => cases hu; cases hv with | w hv => cases hv with | c hv => exact fin rfl (by
      split at h
      · rename_i e ht
        cases hv with
        | p k => exact binOp_equal h (fun w => eq_nil_ptr w 9999 ht _) rfl rfl
      · cases h)
  · cases hv with | w hv => cases hv with | c hv => cases hv; cases hu with | w hu => cases hu with | c hu => exact fin (by cases hu <;> rfl) (by
      split at h
      · rename_i e ht
        cases hu with
        | l0 n c => exact binOp_equal h (fun w => eq_sl_nil w 9999 ht _ _ _) rfl rfl
        | l n c k => exact binOp_equal h (fun w => eq_sl_nil w 9999 ht _ _ _) rfl rfl
        | u n c es k => exact binOp_equal h (fun w => eq_sl_nil w 9999 ht _ _ _) rfl rfl
      · cases h)
  · cases hu with | w hu => cases hu with | c hu => cases hu; cases hv with | w hv => cases hv with | c hv => cases hv; exact fin rfl (by
      split at h
      · rename_i ht; exact binOp_equal h (fun w => eq_fn_nil w 9999 ht) rfl rfl
      · cases h)
  · cases hu with | w hu => cases hu with | c hu => cases hu; cases hv with | w hv => cases hv with | c hv => cases hv; exact fin rfl (by
      split at h
      · rename_i ht; exact binOp_equal h (fun w => eq_fn_some w 9999 ht _ _ _) rfl rfl
      · cases h)
  · split at h
    · cases h
    · rename_i hg
      split at h
      · rename_i b hb
        cases hu with | w hu => cases hu with | a hu => cases hv with | w hv => cases hv with | a hv =>
          have hr := fun w => eqW_ok (P := P) (r := r) 12 10000 (by decide) t _ _ b _ _ hb (.a hu) (.a hv) w
          have hgd := fun (ox oy : Operand) (us vs : Array Value) (w : World) => run_eqGuard_agg (P := P) w op t ox oy us vs (by simpa using hg)
          rcases eqB_ok h with ⟨rfl, rfl⟩ | ⟨rfl, rfl⟩
          · exact ⟨_, .b _, fun ox oy w => by rw [Sem.run_bind, hgd, Result.andThen_ok, run_eql_struct, hr w, Result.andThen_ok]⟩
          · exact ⟨_, .b _, fun ox oy w => by rw [Sem.run_bind, hgd, Result.andThen_ok, run_neq_struct, hr w, Result.andThen_ok]⟩
      · cases h
  · cases hu with | w hu => cases hu with | c hu => cases hu with | o hk hf => cases hv with | w hv => cases hv with | c hv => cases hv; exact fin rfl (by
      cases hl : lookF _ _ _ with
      | none => rw [hl] at h; cases h
      | some b =>
        rw [hl] at h
        injection h with h
        subst h
        exact intBin_ok (cmpC_ok (hf _ (lookF_mem hl))))
  · cases h
/-! ### Unary operators, conversions -/
def opUn (op : UnOp) (x : V) : Option C := match op, x with
  | .neg, .w (.c (.i k n)) => some (.i k (k.wrap (0 - n)))
  | .not, .w (.c (.b b)) => some (.b (!b))
  | .xor, .w (.c (.i k n)) => match bitsI .xor k (if k.signed then -1 else k.max) n with
    | some z => some (.i k z)
    | none => none
  | _, _ => none
theorem opUn_ok {P : Program} {r : Nm} {op : UnOp} {x : V} {c : C} {u : Value} (h : opUn op x = some c) (hu : VR r x u) : ∃ z, CR r c z ∧ ∀ w, (Op.unary op u).run P w = .ok z w := by
  unfold opUn at h
  split at h
  · injection h with h; subst h
    cases hu with | w hu => cases hu with | c hu => cases hu; exact ⟨_, .i _ _, fun w => by simp [Op.unary, Op.intArith]⟩
  · injection h with h; subst h
    cases hu with | w hu => cases hu with | c hu => cases hu; exact ⟨_, .b _, fun w => by simp [Op.unary]⟩
  · split at h
    · rename_i z hz
      injection h with h; subst h
      cases hu with | w hu => cases hu with | c hu => cases hu; exact ⟨_, .i _ _, fun w => by rw [show Op.unary .xor (.int _ _) = Op.intBits .xor _ _ _ from rfl]; exact bitsI_ok hz w⟩
    · cases h
  · cases h
def opConv (P : Program) (s d : TypeId) (x : V) : Option C := match P.underlying s, P.underlying d, x with
  | some _, some (.int k), .w (.c (.i _ n)) => some (.i k (k.wrap n))
  | some _, some .string, .w (.c (.s a)) => some (.s a)
  | _, _, _ => none
theorem opConv_ok {P : Program} {r : Nm} {s d : TypeId} {x : V} {c : C} {u : Value} (h : opConv P s d x = some c) (hu : VR r x u) : ∃ z, CR r c z ∧ ∀ w, (convert s d u).run P w = .ok z w := by
  unfold opConv at h
  split at h
  · rename_i ds k n h1 h2
    injection h with h; subst h
    cases hu with | w hu => cases hu with | c hu => cases hu; exact ⟨_, .i _ _, fun w => by
      unfold convert
      rw [Sem.run_bind, run_underlying h1, Result.andThen_ok, Sem.run_bind, run_underlying h2, Result.andThen_ok]
      cases ds <;> simp [Conv.intToInt]⟩
  · rename_i ds a h1 h2
    injection h with h; subst h
    cases hu with | w hu => cases hu with | c hu => cases hu; exact ⟨_, .s _, fun w => by
      unfold convert
      rw [Sem.run_bind, run_underlying h1, Result.andThen_ok, Sem.run_bind, run_underlying h2, Result.andThen_ok]
      cases ds <;> simp⟩
  · cases h
end Go.Proofs.YtgilghiegfgjeaaGreatDoor
end
