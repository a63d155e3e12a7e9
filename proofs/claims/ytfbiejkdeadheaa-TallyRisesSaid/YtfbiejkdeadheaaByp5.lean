/- Layer 14: the document's Of. -/
import Derived.Test.YtfbiejkdeadheaaByp4
import Derived.Deep.RegionLaw
import Derived.Deep.AppendLies
namespace Go.Proofs.Ytfbiejkdeadheaa
open Go.RowKit Go.Maps

set_option maxRecDepth 100000 in
set_option maxHeartbeats 2000000 in
theorem rbypassOf_any (w : World) (vn ve : Value) (ns : List Int) (l : List Ev) (hn : RdL w vn 1 encI ns) (he : RdL w ve 4 encE l) (hlen : l.length ≤ 60000) :
    Calls Try.prog 23 #[vn, ve] w fun en w' => ∃ v', en = .returned v' ∧ RdL w' v' 2 encP (passL ns l) ∧ Below w.heap.size w w' := by
  obtain ⟨i0, hi, hz0, hz1, hz2⟩ := info_parts Try.infoPass
  obtain ⟨An, cn, rfl, n1, n2, nr⟩ := hn
  have HN : Hid (RdL w (.slice An ns.length cn) 1 encI ns) := Lib.hid ⟨An, cn, rfl, n1, n2, nr⟩
  obtain ⟨A, cap, rfl, l1, l2, hr⟩ := he
  have HR : Hid (RdL w (.slice A l.length cap) 4 encE l) := Lib.hid ⟨A, cap, rfl, l1, l2, hr⟩
  have htl := tallyL_len l
  clear nr hr n1 n2
  go_enter Try.func23, Try.ntmps23
  go_wp2_with fail
  refine (refOf_any _ _ l HR.out hlen).mono ?_
  rintro en w1 ⟨v1, rfl, hown1, hb1⟩
  obtain ⟨s, hs⟩ : ∃ s, s = tallyL l := ⟨_, rfl⟩
  have hpl : passL ns l = s.map (passOf ns l) := by rw [hs]; rfl
  rw [← tally_eq_ref, ← hs] at hown1
  rw [← hs] at htl
  obtain ⟨A1, c1, rfl⟩ := own_form hown1
  have HS : Hid (RdL w1 (.slice A1 s.length c1) 7 encS s) := Lib.hid (RdL.of_own encS_len rfl (by omega) hown1)
  have HP := Lib.hid hpl
  have HB1 := Lib.hid hb1
  have hle1 := hb1.size
  clear hs hpl hown1 hb1
  go_wp2_with fail
  go_loopw [5, 7] (fun v' i wr => ∃ k : Nat, k ≤ s.length ∧ i = .int .i64 k ∧ wr.ownsRow w1.heap.size 46 2 v' ((s.take k).map (passOf ns l)).length (((s.take k).map (passOf ns l)).flatMap encP) ∧ Below w1.heap.size w1 wr) (fun _ i _ => s.length - (intOf i).toNat)
  case atStart => exact ⟨0, by omega, rfl, World.ownsRow_nil _ _ _ _, Below.refl _ _⟩
  case round =>
    obtain ⟨k, hk, rfl, hown, hbel⟩ := hrel
    have hle := hbel.size
    by_cases hlt : k < s.length
    · obtain ⟨A2, c2, hv2, m1, m2, hrr⟩ := HS.out
      obtain ⟨bs, os, hA, hbs, hcs⟩ := hrr (by omega)
      injection hv2 with hv1 hv2 hv3
      subst hv1
      subst hA
      obtain ⟨x, hx⟩ := getElem?_lt hlt
      have c0 := (hbel.cell (p := ⟨bs, os + k * 7 + 0, none⟩) hbs).trans (hcs k x hx 0 _ rfl)
      have c2 := (hbel.cell (p := ⟨bs, os + k * 7 + 2, none⟩) hbs).trans (hcs k x hx 2 _ rfl)
      have c3 := (hbel.cell (p := ⟨bs, os + k * 7 + 3, none⟩) hbs).trans (hcs k x hx 3 _ rfl)
      simp only [Nat.add_zero] at c0
      obtain ⟨q, hq⟩ : ∃ q, q = (s.take k).map (passOf ns l) := ⟨_, rfl⟩
      have hql : q.length ≤ 60000 := by rw [hq]; simp; omega
      have hqs : (s.take (k + 1)).map (passOf ns l) = q ++ [passOf ns l x] := by rw [take_succ_of hx, List.map_append, ← hq]; rfl
      rw [← hq] at hown
      obtain ⟨pp, hpp⟩ : ∃ pp, pp = passOf ns l x := ⟨_, rfl⟩
      rw [← hpp] at hqs
      have HQ := Lib.hid hqs
      have HPP := Lib.hid hpp
      obtain ⟨A5, cp5, hv5⟩ := own_form hown
      subst hv5
      have HOW := Lib.hid (And.intro hown hbel)
      clear hrr hcs hx hv2 hv3 m1 m2 hq hqs hpp hown hbel
      have fin : ∀ (w2 : World), FromPost wr.drew pp (.returned (.agg #[.int .i64 pp.1, .int .i64 pp.2])) w2 →
          w2.ownsRow w1.heap.size 46 2 (.slice A5 q.length cp5) q.length (q.flatMap encP) ∧ Below w1.heap.size w1 w2 ∧ w1.heap.size ≤ w2.heap.size := fun w2 ⟨_, hb2⟩ => by
        have hb3 : Below w1.heap.size w1 wr.drew := HOW.out.2.drew
        refine ⟨?_, hb3.trans (hb2.mono hle), Nat.le_trans hle hb2.size⟩
        exact (show wr.drew.ownsRow w1.heap.size 46 2 (.slice A5 q.length cp5) q.length (q.flatMap encP) from HOW.out.1).kept (grown_of_below hb2 none) (by cases hq : (Value.slice A5 q.length cp5).ownBlock <;> simp)
      have HF := Lib.hid fin
      clear fin
      have PC : ∀ W t, Below w.heap.size w W → t = endS l x → Calls Try.prog 25 #[.slice An ns.length cn, .int .i64 x.thread, .int .i64 x.ask, .int .i64 t, .slice A l.length cap] W (FromPost W pp) := fun W t hb ht => by
        rw [HPP.out]; unfold passOf; rw [ht]
        exact rfrom_any W _ _ ns l _ _ _ (HN.out.below hb (Nat.le_refl _)) (HR.out.below hb (Nat.le_refl _)) hlen
      have HPC := Lib.hid PC
      clear PC
      by_cases hen : x.enter < 0
      · have HEN : Hid ((l.length : Int) = endS l x) := Lib.hid (by unfold endS; rw [if_pos hen])
        go_wp2
        go_region_law (first | (refine step_append_lies _ rfl _ _ 41 rfl w1.heap.size 46 i0 (.agg #[.int .i64 0, .int .i64 0]) 2 16 Try.underlying41 hi hz0 hz1 hz2 rfl (by decide) _ _ _ rfl (hw1.alloc _) ⟨w2.heap.size, 0, none⟩ 1 1 (encP pp) rfl rfl (pass_cells w2 pp rfl) (encP_one _) (by decide) (by unfold maxLen; omega) (by omega) (by simp; omega) _ rfl ?_; intro g3 cap3 w3 h3 hg3 hl3 hlt3) | (go_simp; go_at_call 25; refine (HPC.out _ _ (HB1.out.trans (HOW.out.2.mono hle1)).drew HEN.out).mono ?_; rintro en w2 ⟨rfl, hb2⟩; obtain ⟨hw1, hw2, hw3⟩ := HF.out w2 ⟨rfl, hb2⟩))
        all_goals
          have hfin : w3.ownsRow w1.heap.size 46 2 (.slice (some ⟨g3, 0, none⟩) (q.length + 1) cap3) ((s.take (k + 1)).map (passOf ns l)).length (((s.take (k + 1)).map (passOf ns l)).flatMap encP) ∧ Below w1.heap.size w1 w3 := by
            rw [HQ.out]
            exact ⟨by simpa [List.flatMap_append, List.flatMap_cons] using h3, (hw2.alloc hw3 _).grown hg3 (by simp; omega) (fun j hj => (hw1.lt j hj).1)⟩
          have HFF := Lib.hid hfin
          clear hfin h3 hg3 hw1 hw2
          go_wp2
          go_roundw
          case rel => exact ⟨k + 1, by omega, by go_num, HFF.out.1, HFF.out.2⟩
          case measure => simp [intOf]; omega
      · have HEN : Hid (x.enter = endS l x) := Lib.hid (by unfold endS; rw [if_neg hen])
        go_wp2
        go_region_law (first | (refine step_append_lies _ rfl _ _ 41 rfl w1.heap.size 46 i0 (.agg #[.int .i64 0, .int .i64 0]) 2 16 Try.underlying41 hi hz0 hz1 hz2 rfl (by decide) _ _ _ rfl (hw1.alloc _) ⟨w2.heap.size, 0, none⟩ 1 1 (encP pp) rfl rfl (pass_cells w2 pp rfl) (encP_one _) (by decide) (by unfold maxLen; omega) (by omega) (by simp; omega) _ rfl ?_; intro g3 cap3 w3 h3 hg3 hl3 hlt3) | (go_simp; go_at_call 25; refine (HPC.out _ _ (HB1.out.trans (HOW.out.2.mono hle1)).drew HEN.out).mono ?_; rintro en w2 ⟨rfl, hb2⟩; obtain ⟨hw1, hw2, hw3⟩ := HF.out w2 ⟨rfl, hb2⟩))
        all_goals
          have hfin : w3.ownsRow w1.heap.size 46 2 (.slice (some ⟨g3, 0, none⟩) (q.length + 1) cap3) ((s.take (k + 1)).map (passOf ns l)).length (((s.take (k + 1)).map (passOf ns l)).flatMap encP) ∧ Below w1.heap.size w1 w3 := by
            rw [HQ.out]
            exact ⟨by simpa [List.flatMap_append, List.flatMap_cons] using h3, (hw2.alloc hw3 _).grown hg3 (by simp; omega) (fun j hj => (hw1.lt j hj).1)⟩
          have HFF := Lib.hid hfin
          clear hfin h3 hg3 hw1 hw2
          go_wp2
          go_roundw
          case rel => exact ⟨k + 1, by omega, by go_num, HFF.out.1, HFF.out.2⟩
          case measure => simp [intOf]; omega
    · obtain rfl : k = s.length := by omega
      have HF := Lib.hid (And.intro hown hbel)
      clear hown hbel
      go_wp2
      go_ret
      refine ⟨_, rfl, ?_, HB1.out.trans (HF.out.2.mono hle1)⟩
      have h1 := HF.out.1
      rw [List.take_length] at h1
      rw [HP.out]
      exact RdL.of_own encP_len rfl (by simp; omega) h1
end Go.Proofs.Ytfbiejkdeadheaa
