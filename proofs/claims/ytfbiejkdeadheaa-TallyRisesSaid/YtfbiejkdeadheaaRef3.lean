/- Layer 12: the document's Of. -/
import Derived.Test.YtfbiejkdeadheaaRef2
namespace Go.Proofs.Ytfbiejkdeadheaa
open Go.RowKit Go.Maps

theorem any_take_succ {α : Type} {l : List α} {p : α → Bool} {j : Nat} {x : α} (hx : l[j]? = some x) : (l.take (j + 1)).any p = ((l.take j).any p || p x) := by
  rw [take_succ_of hx, List.any_append]; simp

set_option maxRecDepth 100000 in
set_option maxHeartbeats 4000000 in
theorem refOf_any (w : World) (v : Value) (l : List Ev) (h : RdL w v 4 encE l) (hlen : l.length ≤ 60000) :
    Calls Try.prog 54 #[v] w fun en w' => ∃ v', en = .returned v' ∧ w'.ownsRow w.heap.size 103 7 v' (refL l).length ((refL l).flatMap encS) ∧ Below w.heap.size w w' := by
  obtain ⟨i0, hi, hz0, hz1, hz2⟩ := info_parts Try.infoStay
  obtain ⟨A, cap, rfl, l1, l2, hr⟩ := h
  have HRD : Hid (RdL w (.slice A l.length cap) 4 encE l) := Lib.hid ⟨A, cap, rfl, l1, l2, hr⟩
  have HR := Lib.hid hr
  clear hr
  go_enter Try.func54, Try.ntmps54
  go_wp2
  go_loopw [3, 4] (fun v' i wr => ∃ (k : Nat), k ≤ l.length ∧ i = .int .i64 k ∧ wr.ownsRow w.heap.size 103 7 v' (refTo l k).length ((refTo l k).flatMap encS) ∧ Below w.heap.size w wr) (fun _ i _ => l.length - (intOf i).toNat)
  case atStart => exact ⟨0, by omega, rfl, World.ownsRow_nil _ _ _ _, Below.refl _ _⟩
  case round =>
    obtain ⟨k, hk, rfl, hown, hbel⟩ := hrel
    by_cases hlt : k < l.length
    · obtain ⟨bl, off, rfl, hbl, hc⟩ := HR.out (by omega)
      obtain ⟨e, he⟩ := getElem?_lt hlt
      have c0 := (hbel.cell (p := ⟨bl, off + k * 4 + 0, none⟩) hbl).trans (hc k e he 0 _ rfl)
      have c1 := (hbel.cell (p := ⟨bl, off + k * 4 + 1, none⟩) hbl).trans (hc k e he 1 _ rfl)
      simp only [Nat.add_zero] at c0
      obtain ⟨out, ho⟩ : ∃ out, out = refTo l k := ⟨_, rfl⟩
      have hol : out.length ≤ 60000 := by rw [ho]; have := refTo_len l k; omega
      have hrs := refTo_succ l k e he
      rw [← ho] at hown hrs
      have hle := hbel.size
      have HE := Lib.hid (And.intro he hrs)
      have HO := Lib.hid ho
      clear hc he hrs ho
      by_cases k1 : e.kind = 1
      · have b1 : (e.kind == 1) = true := by rw [k1]; rfl
        have b1' : (e.kind != 1) = false := by rw [k1]; rfl
        have K1 := Lib.hid k1
        clear k1
        obtain ⟨A', cp, hv⟩ := own_form hown
        subst hv
        have HOW := Lib.hid (And.intro hown hbel)
        have HRS : Hid (RdL wr (.slice A' out.length cp) 7 encS out) := Lib.hid (RdL.of_own encS_len rfl (by omega) hown)
        clear hown hbel
        go_wp2_with fail
        obtain ⟨wo, hwo⟩ : ∃ wo : World, wo = wr := ⟨_, rfl⟩
        rw [← hwo] at HOW HRS c0 c1 hle ⊢
        clear hwo
        go_loopw [5, 6] (fun f i w' => ∃ j n : Nat, j ≤ out.length ∧ i = .int .i64 j ∧ f = .bool (!(out.take j).any (bothers e.thread k)) ∧ w' = wo.drewN n) (fun _ i _ => out.length - (intOf i).toNat)
        case atStart => exact ⟨0, 0, by omega, rfl, rfl, rfl⟩
        case round =>
          obtain ⟨j, n, hj, rfl, hf, rfl⟩ := hrel
          by_cases hlt2 : j < out.length
          · obtain ⟨A1, c1', hv1, m1, m2, hrr⟩ := HRS.out
            obtain ⟨bs, os, hA, hbs, hcs⟩ := hrr (by omega)
            injection hv1 with hv1 hv2 hv3
            subst hv1
            subst hA
            obtain ⟨s, hs⟩ := getElem?_lt hlt2
            have d0 := hcs j s hs 0 _ rfl
            have d5 := hcs j s hs 5 _ rfl
            simp only [Nat.add_zero] at d0
            have hat := any_take_succ (p := bothers e.thread k) hs
            obtain ⟨fb, hfb⟩ : ∃ fb, fb = (out.take j).any (bothers e.thread k) := ⟨_, rfl⟩
            rw [← hfb] at hat hf
            have HAT := Lib.hid hat
            clear hrr hcs hs hv2 hv3 hat hfb m1 m2
            subst hf
            by_cases h1 : s.thread = e.thread
            · have t1 : (s.thread == e.thread) = true := by rw [beq_iff_eq]; exact h1
              by_cases h2 : s.rest < 0
              · have t2 : decide (s.rest < 0) = true := by simpa using h2
                have hb : bothers e.thread k s = true := decide_eq_true ⟨h1, .inl h2⟩
                have HB := Lib.hid hb
                clear h1 hb
                go_wp2
                go_quiet (fail)
                go_wp2
                go_roundw
                case rel => exact ⟨j + 1, n + nq, by omega, by go_num, by rw [HAT.out, HB.out, Bool.or_true]; rfl, by first | rfl | rw [World.drewN_drewN]⟩
                case measure => simp [intOf]; omega
              · have t2 : decide (s.rest < 0) = false := by simpa using h2
                by_cases h3 : (k : Int) < s.rest
                · have t3 : decide ((k : Int) < s.rest) = true := by simpa using h3
                  have hb : bothers e.thread k s = true := decide_eq_true ⟨h1, .inr h3⟩
                  have HB := Lib.hid hb
                  clear h1 hb
                  go_wp2
                  go_quiet (fail)
                  go_wp2
                  go_roundw
                  case rel => exact ⟨j + 1, n + nq, by omega, by go_num, by rw [HAT.out, HB.out, Bool.or_true]; rfl, by first | rfl | rw [World.drewN_drewN]⟩
                  case measure => simp [intOf]; omega
                · have t3 : decide ((k : Int) < s.rest) = false := by simpa using h3
                  have hb : bothers e.thread k s = false := decide_eq_false (by omega)
                  have HB := Lib.hid hb
                  clear h1 hb
                  go_wp2
                  go_quiet (fail)
                  go_wp2
                  go_roundw
                  case rel => exact ⟨j + 1, n + nq, by omega, by go_num, by rw [HAT.out, HB.out, Bool.or_false], by first | rfl | rw [World.drewN_drewN]⟩
                  case measure => simp [intOf]; omega
            · have t1 : (s.thread == e.thread) = false := by rw [beq_eq_false_iff_ne]; exact h1
              have hb : bothers e.thread k s = false := decide_eq_false (fun h => h1 h.1)
              have HB := Lib.hid hb
              clear h1 hb
              go_wp2
              go_quiet (fail)
              go_wp2
              go_roundw
              case rel => exact ⟨j + 1, n + nq, by omega, by go_num, by rw [HAT.out, HB.out, Bool.or_false], by first | rfl | rw [World.drewN_drewN]⟩
              case measure => simp [intOf]; omega
          · obtain rfl : j = out.length := by omega
            rw [List.take_length] at hf
            have hle2 : w.heap.size ≤ wo.heap.size := hle
            by_cases hfree : out.any (bothers e.thread k) = false
            · rw [hfree] at hf
              have hrn : refTo l (k + 1) = out ++ [stayTo l k e l.length] := by rw [HE.out.2, if_pos ⟨K1.out, hfree⟩]
              have HRN := Lib.hid hrn
              clear hfree hrn
              subst hf
              go_wp2_with fail
              refine (stay_any _ _ l k e ((HRD.out.below HOW.out.2 (Nat.le_refl _)).drewN n) HE.out.1 hlen).mono ?_
              rintro en w1 ⟨rfl, hb1⟩
              have hb1' : Below wo.heap.size (wo.drewN n) w1 := hb1
              have hown1 : w1.ownsRow w.heap.size 103 7 (.slice A' out.length cp) out.length (out.flatMap encS) := HOW.out.1.kept (grown_of_below (a := wo) ⟨hb1'.os, hb1'.tape, hb1'.output, hb1'.size, hb1'.block⟩ none) (by cases hq : (Value.slice A' out.length cp).ownBlock <;> simp)
              have hs1 : wo.heap.size ≤ w1.heap.size := hb1'.size
              go_wp2_with (at_builtin; refine wpList_append_own _ rfl _ _ 54 rfl w.heap.size 103 i0 (.agg #[.int .i64 0, .bool false, .int .i64 0, .int .i64 0, .int .i64 0, .int .i64 0, .int .i64 0]) 7 56 Try.underlying54 hi hz0 hz1 hz2 rfl (by decide) _ _ _ rfl (hown1.alloc _) ⟨w1.heap.size, 0, none⟩ 1 1 (encS (stayTo l k e l.length)) rfl rfl (stay_cells w1 (stayTo l k e l.length) rfl) (encS_one _) ?c3 ?c4 ?c5 ?_)
              case c3 => unfold maxLen; omega
              case c4 => omega
              case c5 => simp; omega
              intro v' w2 h2 hg2 _
              have hfin : w2.ownsRow w.heap.size 103 7 v' (refTo l (k + 1)).length ((refTo l (k + 1)).flatMap encS) ∧ Below w.heap.size w w2 := by
                rw [HRN.out]
                refine ⟨by simpa [List.flatMap_append, List.flatMap_cons] using h2, ?_⟩
                exact (((below_drewN HOW.out.2 n).trans (hb1'.mono hle2)).alloc (by omega) _).grown hg2 (by simp; omega) (fun j hj => (hown1.lt j hj).1)
              have HF := Lib.hid hfin
              clear hfin h2 hg2 hown1 hb1 hb1'
              go_wp2
              go_roundw
              case rel => exact ⟨k + 1, by omega, by go_num, HF.out.1, HF.out.2⟩
              case measure => simp [intOf]; omega
            · have hfr : out.any (bothers e.thread k) = true := by simpa using hfree
              rw [hfr] at hf
              have hrn : refTo l (k + 1) = out := by rw [HE.out.2, if_neg (fun h => hfree h.2)]
              have HRN := Lib.hid hrn
              clear hfree hfr hrn
              subst hf
              go_wp2
              go_roundw
              case rel => exact ⟨k + 1, by omega, by go_num, by rw [HRN.out]; exact HOW.out.1, below_drewN HOW.out.2 n⟩
              case measure => simp [intOf]; omega
      · have b1 : (e.kind == 1) = false := by simpa using k1
        have b1' : (e.kind != 1) = true := by simpa using k1
        have hrn : refTo l (k + 1) = out := by rw [HE.out.2, if_neg (fun h => k1 h.1)]
        have HRN := Lib.hid (And.intro hrn (And.intro hown hbel))
        clear k1 hrn hown hbel
        go_wp2
        go_roundw
        case rel => exact ⟨k + 1, by omega, by go_num, by rw [HRN.out.1]; exact HRN.out.2.1, HRN.out.2.2⟩
        case measure => simp [intOf]; omega
    · obtain rfl : k = l.length := by omega
      have HF := Lib.hid (And.intro hown hbel)
      clear hown hbel
      go_wp2
      go_ret
      exact ⟨_, rfl, HF.out.1, HF.out.2⟩
end Go.Proofs.Ytfbiejkdeadheaa
