/- Layer 14: bypass.Of and the document's Of. -/
import Derived.Test.YtfbiejkdeadheaaByp3
import Derived.Test.YtfbiejkdeadheaaRef3
namespace Go.Proofs.Ytfbiejkdeadheaa
open Go.RowKit Go.Maps

theorem Try.infoPass : (Try.prog.info? 46).map (fun i => (i.zero, i.size, i.bytes)) = some (some (.agg #[.int .i64 0, .int .i64 0]), 2, 16) := by kernel_rfl
theorem pass_cells (w : World) (p : Int × Int) {g : Nat} (hg : g = w.heap.size) : ∀ j u, (encP p)[j]? = some u → (w.alloc (.cells #[.int .i64 p.1, .int .i64 p.2] 46)).cell? ((⟨g, 0, none⟩ : Addr).add j) = some u := by
  intro j u hu
  subst hg
  have hadd : (⟨w.heap.size, 0, none⟩ : Addr).add j = ⟨w.heap.size, j, none⟩ := by unfold Addr.add; split <;> simp_all
  rw [hadd, cell_of_row (w.alloc _) w.heap.size j _ _ (0, 0) (heap_alloc_new w _)]
  simpa [encP] using hu
theorem encP_one (p : Int × Int) : ∀ u ∈ encP p, u.oneCell' = true := by
  intro u hu; simp [encP] at hu; rcases hu with rfl | rfl <;> rfl

def endS (l : List Ev) (s : Stay) : Int := if s.enter < 0 then l.length else s.enter
def passOf (ns : List Int) (l : List Ev) (s : Stay) : Int × Int := fromL ns s.thread s.ask (endS l s) l
def passL (ns : List Int) (l : List Ev) : List (Int × Int) := (tallyL l).map (passOf ns l)

theorem tallyL_len (l : List Ev) : (tallyL l).length ≤ l.length := tallyTo_len l _

set_option maxRecDepth 100000 in
set_option maxHeartbeats 2000000 in
theorem bypassOf_any (w : World) (vn ve : Value) (ns : List Int) (l : List Ev) (hn : RdL w vn 1 encI ns) (he : RdL w ve 4 encE l) (hwf : ∀ e ∈ l, wfE e) (hlen : l.length ≤ 60000) :
    Calls Try.prog 21 #[vn, ve] w fun en w' => ∃ v', en = .returned v' ∧ RdL w' v' 2 encP (passL ns l) ∧ Below w.heap.size w w' := by
  obtain ⟨i0, hi, hz0, hz1, hz2⟩ := info_parts Try.infoPass
  obtain ⟨An, cn, rfl, n1, n2, nr⟩ := hn
  have HN : Hid (RdL w (.slice An ns.length cn) 1 encI ns) := Lib.hid ⟨An, cn, rfl, n1, n2, nr⟩
  obtain ⟨A, cap, rfl, l1, l2, hr⟩ := he
  have HR : Hid (RdL w (.slice A l.length cap) 4 encE l) := Lib.hid ⟨A, cap, rfl, l1, l2, hr⟩
  have HW := Lib.hid hwf
  have htl := tallyL_len l
  clear nr hr n1 n2 hwf
  go_enter Try.func21, Try.ntmps21
  go_wp2_with fail
  refine (tallyOf_any _ _ l HR.out HW.out hlen).mono ?_
  rintro en w1 ⟨v1, rfl, hown1, hb1⟩
  obtain ⟨s, hs⟩ : ∃ s, s = tallyL l := ⟨_, rfl⟩
  have hpl : passL ns l = s.map (passOf ns l) := by rw [hs]; rfl
  rw [← hs] at hown1 htl
  obtain ⟨A1, c1, rfl⟩ := own_form hown1
  have HS : Hid (RdL w1 (.slice A1 s.length c1) 7 encS s) := Lib.hid (RdL.of_own encS_len rfl (by omega) hown1)
  have HP := Lib.hid hpl
  have HB1 := Lib.hid hb1
  have hle1 := hb1.size
  clear hs hpl hown1 hb1
  go_wp2_with fail
  go_loopw [5, 12] (fun v' i wr => ∃ k : Nat, k ≤ s.length ∧ i = .int .i64 k ∧ wr.ownsRow w1.heap.size 46 2 v' ((s.take k).map (passOf ns l)).length (((s.take k).map (passOf ns l)).flatMap encP) ∧ Below w1.heap.size w1 wr) (fun _ i _ => s.length - (intOf i).toNat)
  case atStart => exact ⟨0, by omega, rfl, World.ownsRow_nil _ _ _ _, Below.refl _ _⟩
  case round =>
    obtain ⟨k, hk, rfl, hown, hbel⟩ := hrel
    have hle := hbel.size
    by_cases hlt : k < s.length
    · obtain ⟨A2, c2, hv2, m1, m2, hrr⟩ := HS.out
      obtain ⟨bs, os, hA, hbs, hcs⟩ := hrr (by omega)
      injection hv2 with hv1 hv2 hv3
      subst hv1
      subst hA
      obtain ⟨x, hx⟩ := getElem?_lt hlt
      have c0 := (hbel.cell (p := ⟨bs, os + k * 7 + 0, none⟩) hbs).trans (hcs k x hx 0 _ rfl)
      have c1 := (hbel.cell (p := ⟨bs, os + k * 7 + 1, none⟩) hbs).trans (hcs k x hx 1 _ rfl)
      have c2 := (hbel.cell (p := ⟨bs, os + k * 7 + 2, none⟩) hbs).trans (hcs k x hx 2 _ rfl)
      have c3 := (hbel.cell (p := ⟨bs, os + k * 7 + 3, none⟩) hbs).trans (hcs k x hx 3 _ rfl)
      have c4 := (hbel.cell (p := ⟨bs, os + k * 7 + 4, none⟩) hbs).trans (hcs k x hx 4 _ rfl)
      have c5 := (hbel.cell (p := ⟨bs, os + k * 7 + 5, none⟩) hbs).trans (hcs k x hx 5 _ rfl)
      have c6 := (hbel.cell (p := ⟨bs, os + k * 7 + 6, none⟩) hbs).trans (hcs k x hx 6 _ rfl)
      simp only [Nat.add_zero] at c0
      obtain ⟨q, hq⟩ : ∃ q, q = (s.take k).map (passOf ns l) := ⟨_, rfl⟩
      have hql : q.length ≤ 60000 := by rw [hq]; simp; omega
      have hqs : (s.take (k + 1)).map (passOf ns l) = q ++ [passOf ns l x] := by rw [take_succ_of hx, List.map_append, ← hq]; rfl
      rw [← hq] at hown
      obtain ⟨pp, hpp⟩ : ∃ pp, pp = passOf ns l x := ⟨_, rfl⟩
      rw [← hpp] at hqs
      have HQ := Lib.hid hqs
      have HPP := Lib.hid hpp
      have HOW := Lib.hid (And.intro hown hbel)
      clear hrr hcs hx hv2 hv3 m1 m2 hq hqs hpp hown hbel
      have fin : ∀ (w2 : World), FromPost (wr.alloc (.cells #[.int .i64 x.thread, .bool x.read, .int .i64 x.ask, .int .i64 x.enter, .int .i64 x.exit, .int .i64 x.rest, .int .i64 x.count] 103)) pp (.returned (.agg #[.int .i64 pp.1, .int .i64 pp.2])) w2 →
          w2.ownsRow w1.heap.size 46 2 u5 q.length (q.flatMap encP) ∧ Below w1.heap.size w1 w2 ∧ w1.heap.size ≤ w2.heap.size := fun w2 ⟨_, hb2⟩ => by
        have hb3 := (HOW.out.2.alloc hle (.cells #[.int .i64 x.thread, .bool x.read, .int .i64 x.ask, .int .i64 x.enter, .int .i64 x.exit, .int .i64 x.rest, .int .i64 x.count] 103))
        refine ⟨?_, hb3.trans (hb2.mono (by simp; omega)), by have := hb2.size; simp at this; omega⟩
        exact (HOW.out.1.alloc _).kept (grown_of_below hb2 none) (by cases hq : u5.ownBlock <;> simp)
      have HF := Lib.hid fin
      clear fin
      have PC : ∀ W t, Below w.heap.size w W → t = endS l x → Calls Try.prog 24 #[.slice An ns.length cn, .int .i64 x.thread, .int .i64 x.ask, .int .i64 t, .slice A l.length cap] W (FromPost W pp) := fun W t hb ht => by
        rw [HPP.out]; unfold passOf; rw [ht]
        exact from_any W _ _ ns l _ _ _ (HN.out.below hb (Nat.le_refl _)) (HR.out.below hb (Nat.le_refl _)) hlen
      have HPC := Lib.hid PC
      clear PC
      by_cases hen : x.enter < 0
      · have HEN : Hid ((l.length : Int) = endS l x) := Lib.hid (by unfold endS; rw [if_pos hen])
        go_wp2_with fail
        refine (HPC.out _ _ ((HB1.out.trans (HOW.out.2.mono hle1)).alloc (by omega) _) HEN.out).mono ?_
        rintro en w2 ⟨rfl, hb2⟩
        obtain ⟨hw1, hw2, hw3⟩ := HF.out w2 ⟨rfl, hb2⟩
        clear hb2
        go_wp2_with (at_builtin; refine wpList_append_own _ rfl _ _ 41 rfl w1.heap.size 46 i0 (.agg #[.int .i64 0, .int .i64 0]) 2 16 Try.underlying41 hi hz0 hz1 hz2 rfl (by decide) _ _ _ rfl (hw1.alloc _) ⟨w2.heap.size, 0, none⟩ 1 1 (encP pp) rfl rfl (pass_cells w2 pp rfl) (encP_one _) ?c3 ?c4 ?c5 ?_)
        case c3 => unfold maxLen; omega
        case c4 => omega
        case c5 => simp; omega
        intro v' w3 h3 hg3 _
        have hfin : w3.ownsRow w1.heap.size 46 2 v' ((s.take (k + 1)).map (passOf ns l)).length (((s.take (k + 1)).map (passOf ns l)).flatMap encP) ∧ Below w1.heap.size w1 w3 := by
          rw [HQ.out]
          exact ⟨by simpa [List.flatMap_append, List.flatMap_cons] using h3, (hw2.alloc hw3 _).grown hg3 (by simp; omega) (fun j hj => (hw1.lt j hj).1)⟩
        have HFF := Lib.hid hfin
        clear hfin h3 hg3 hw1 hw2
        go_wp2
        go_roundw
        case rel => exact ⟨k + 1, by omega, by go_num, HFF.out.1, HFF.out.2⟩
        case measure => simp [intOf]; omega
      · have HEN : Hid (x.enter = endS l x) := Lib.hid (by unfold endS; rw [if_neg hen])
        go_wp2_with fail
        refine (HPC.out _ _ ((HB1.out.trans (HOW.out.2.mono hle1)).alloc (by omega) _) HEN.out).mono ?_
        rintro en w2 ⟨rfl, hb2⟩
        obtain ⟨hw1, hw2, hw3⟩ := HF.out w2 ⟨rfl, hb2⟩
        clear hb2
        go_wp2_with (at_builtin; refine wpList_append_own _ rfl _ _ 41 rfl w1.heap.size 46 i0 (.agg #[.int .i64 0, .int .i64 0]) 2 16 Try.underlying41 hi hz0 hz1 hz2 rfl (by decide) _ _ _ rfl (hw1.alloc _) ⟨w2.heap.size, 0, none⟩ 1 1 (encP pp) rfl rfl (pass_cells w2 pp rfl) (encP_one _) ?d3 ?d4 ?d5 ?_)
        case d3 => unfold maxLen; omega
        case d4 => omega
        case d5 => simp; omega
        intro v' w3 h3 hg3 _
        have hfin : w3.ownsRow w1.heap.size 46 2 v' ((s.take (k + 1)).map (passOf ns l)).length (((s.take (k + 1)).map (passOf ns l)).flatMap encP) ∧ Below w1.heap.size w1 w3 := by
          rw [HQ.out]
          exact ⟨by simpa [List.flatMap_append, List.flatMap_cons] using h3, (hw2.alloc hw3 _).grown hg3 (by simp; omega) (fun j hj => (hw1.lt j hj).1)⟩
        have HFF := Lib.hid hfin
        clear hfin h3 hg3 hw1 hw2
        go_wp2
        go_roundw
        case rel => exact ⟨k + 1, by omega, by go_num, HFF.out.1, HFF.out.2⟩
        case measure => simp [intOf]; omega
    · obtain rfl : k = s.length := by omega
      have HF := Lib.hid (And.intro hown hbel)
      clear hown hbel
      go_wp2
      go_ret
      refine ⟨_, rfl, ?_, HB1.out.trans (HF.out.2.mono hle1)⟩
      have h1 := HF.out.1
      rw [List.take_length] at h1
      rw [HP.out]
      exact RdL.of_own encP_len rfl (by simp; omega) h1
end Go.Proofs.Ytfbiejkdeadheaa
