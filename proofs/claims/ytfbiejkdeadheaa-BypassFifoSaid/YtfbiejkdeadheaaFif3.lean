/- Layer 14: the walk of BypassFifo. -/
import Derived.Test.YtfbiejkdeadheaaFif2
import Derived.Test.YtfbiejkdeadheaaByp6
namespace Go.Proofs.Ytfbiejkdeadheaa
open Go.RowKit Go.Maps

theorem longF (w : World) (A : Option Addr) (m c : Nat) (h1 : 60 < m) (h2 : m ≤ 9223372036854775807) :
    Calls Try.prog 6 #[.slice A m c] w fun e w' => e = .returned (.bool true) ∧ Below w.heap.size w w' := by
  go_enter Try.func6, Try.ntmps6
  go_wp2_with fail
  refine (awake14 _).mono ?_
  rintro en w1 ⟨rfl, hb⟩
  go_wp2
  go_ret
  exact ⟨rfl, hb⟩
theorem fifo_call (w : World) (v : Value) (l : List Ev) (b : Bool) (hb : fifoB l (tallyL l) = b) (h : RdL w v 4 encE l) (hwf : ∀ e ∈ l, wfE e) (hlen : l.length ≤ 60000) :
    Calls Try.prog 27 #[v] w fun e w' => e = .returned (.bool b) ∧ Below w.heap.size w w' := by rw [← hb]; exact fifo_any w v l h hwf hlen
theorem stray_call (w : World) (v : Value) (l : List Stay) (t : Int) (b : Bool) (hb : strayB l t = b) (h : RdL w v 7 encS l) :
    Calls Try.prog 29 #[v, .int .i64 t] w fun e w' => e = .returned (.bool b) ∧ w = w' := by rw [← hb]; exact stray_any w v l t h

theorem notF (w : World) (v : Value) (l : List Ev) (h : RdL w v 4 encE l) (hwf : ∀ e ∈ l, wfE e) (hl60 : l.length ≤ 60) (hf : fifoB l (tallyL l) = false) :
    Calls Try.prog 6 #[v] w fun e w' => e = .returned (.bool true) ∧ Below w.heap.size w w' := by
  obtain ⟨A, cap, rfl, l1, l2, hr⟩ := h
  have HR : Hid (RdL w (.slice A l.length cap) 4 encE l) := Lib.hid ⟨A, cap, rfl, l1, l2, hr⟩
  have HW := Lib.hid hwf
  have HF := Lib.hid hf
  clear hr hwf hf
  go_enter Try.func6, Try.ntmps6
  go_wp2_with fail
  refine (fifo_call _ _ l false HF.out HR.out HW.out (by omega)).mono ?_
  rintro en w1 ⟨rfl, b1⟩
  have HB1 := Lib.hid b1
  clear b1
  go_wp2_with fail
  refine (awake14 _).mono ?_
  rintro en w2 ⟨rfl, hb⟩
  go_wp2
  go_ret
  exact ⟨rfl, HB1.out.trans (hb.mono HB1.out.size)⟩

set_option maxRecDepth 100000 in
set_option maxHeartbeats 2000000 in
theorem fifo14 (w : World) (v : Value) (l : List Ev) (h : RdL w v 4 encE l) (hwf : ∀ e ∈ l, wfE e) (hl60 : l.length ≤ 60) (hf : fifoB l (tallyL l) = true) :
    Calls Try.prog 6 #[v] w fun e w' => e = .returned (.bool true) ∧ Below w.heap.size w w' := by
  obtain ⟨A, cap, rfl, l1, l2, hr⟩ := h
  have HR : Hid (RdL w (.slice A l.length cap) 4 encE l) := Lib.hid ⟨A, cap, rfl, l1, l2, hr⟩
  have HRR := Lib.hid hr
  have HW := Lib.hid hwf
  have HF := Lib.hid hf
  have htl := tallyL_len l
  clear hr hwf hf
  go_enter Try.func6, Try.ntmps6
  go_wp2_with fail
  refine (fifo_call _ _ l true HF.out HR.out HW.out (by omega)).mono ?_
  rintro en w1 ⟨rfl, b1⟩
  have HB1 := Lib.hid b1
  clear b1
  go_wp2_with fail
  refine (tallyOf_any _ _ l (HR.out.below HB1.out (Nat.le_refl _)) HW.out (by omega)).mono ?_
  rintro en w2 ⟨v2, rfl, hown, b2⟩
  have HB2 := Lib.hid (HB1.out.trans (b2.mono HB1.out.size))
  clear b2
  go_wp2_with fail
  refine (bypassOf_any _ _ _ [] l RdL.nil (HR.out.below HB2.out (Nat.le_refl _)) HW.out (by omega)).mono ?_
  rintro en w3 ⟨v3, rfl, hp, b3⟩
  obtain ⟨s, hs⟩ : ∃ s, s = tallyL l := ⟨_, rfl⟩
  rw [← hs] at hown htl
  have hpl : passL [] l = s.map (passOf [] l) := by rw [hs]; rfl
  obtain ⟨A2, c2, rfl⟩ := own_form hown
  have HS : Hid (RdL w3 (.slice A2 s.length c2) 7 encS s) := Lib.hid ((RdL.of_own encS_len rfl (by omega) hown).below b3 (Nat.le_refl _))
  obtain ⟨A3, c3, rfl, p1, p2, pr⟩ := hp
  have hlp : (passL [] l).length = s.length := by rw [hpl, List.length_map]
  rw [hlp] at p1 p2 pr ⊢
  have HP := Lib.hid pr
  have HPL := Lib.hid hpl
  have HSF : Hid (fifoB l s = true) := Lib.hid (by rw [hs]; exact HF.out)
  have HB3 := Lib.hid (HB2.out.trans (b3.mono HB2.out.size))
  clear hown b3 hs hpl p1 p2 pr hlp
  go_wp2_with fail
  go_loop [5] (fun i => ∃ k : Nat, i = .int .i64 k ∧ k ≤ s.length) (fun i => s.length - (intOf i).toNat)
  case atStart => exact ⟨0, rfl, by omega⟩
  case round =>
    obtain ⟨k, rfl, hk⟩ := hrel
    by_cases hlt : k < s.length
    · go_wp2_with fail
      go_loop [6, 7] (fun o j => ∃ q : Nat, j = .int .i64 q ∧ q ≤ l.length ∧ o = .int .i64 (ownTo l s q)) (fun _ j => l.length - (intOf j).toNat)
      case atStart => exact ⟨0, rfl, by omega, rfl⟩
      case round =>
        obtain ⟨q, rfl, hq, rfl⟩ := hrel
        have ho := ownTo_le l s q
        obtain ⟨o, hoo⟩ : ∃ o, o = ownTo l s q := ⟨_, rfl⟩
        rw [← hoo] at ho ⊢
        obtain ⟨ho1, ho2⟩ := ho
        by_cases hql : q < l.length
        · obtain ⟨bl, off, rfl, hbl, hc⟩ := HRR.out (by omega)
          obtain ⟨e, he⟩ := getElem?_lt hql
          have c0 := (HB3.out.cell (p := ⟨bl, off + q * 4 + 0, none⟩) hbl).trans (hc q e he 0 _ rfl)
          simp only [Nat.add_zero] at c0
          have hos := ownTo_succ l s q e he
          rw [← hoo] at hos
          have HOS := Lib.hid hos
          clear hc he hos hoo
          by_cases h1 : e.kind = 2
          · have b1 : (e.kind == 2) = true := by rw [h1]; rfl
            cases hst : strayB s q
            · have hn : ownTo l s (q + 1) = o := by rw [HOS.out, if_neg (fun h => by rw [hst] at h; exact absurd h.2 (by decide))]
              have HN := Lib.hid (And.intro hst hn)
              clear h1 hst hn
              go_wp2_with (go_at_call 29; refine (stray_call _ _ s _ false HN.out.1 HS.out).mono ?_; rintro en w' ⟨rfl, rfl⟩)
              go_round
              case rel => exact ⟨q + 1, by go_num, by omega, by rw [HN.out.2]⟩
              case measure => simp [intOf]; omega
            · have hn : ownTo l s (q + 1) = o + 1 := by rw [HOS.out, if_pos ⟨h1, hst⟩]
              have HN := Lib.hid (And.intro hst hn)
              clear h1 hst hn
              go_wp2_with (go_at_call 29; refine (stray_call _ _ s _ true HN.out.1 HS.out).mono ?_; rintro en w' ⟨rfl, rfl⟩)
              go_round
              case rel => exact ⟨q + 1, by go_num, by omega, by rw [HN.out.2]⟩
              case measure => simp [intOf]; omega
          · have b1 : (e.kind == 2) = false := by simpa using h1
            have hn : ownTo l s (q + 1) = o := by rw [HOS.out, if_neg (fun h => h1 h.1)]
            have HN := Lib.hid hn
            clear h1 hn
            go_wp2
            go_round
            case rel => exact ⟨q + 1, by go_num, by omega, by rw [HN.out]⟩
            case measure => simp [intOf]; omega
        · obtain rfl : q = l.length := by omega
          obtain ⟨bp, op, rfl, hbp, hc⟩ := HP.out (by omega)
          obtain ⟨x, hx⟩ := getElem?_lt hlt
          have hpx : (passL [] l)[k]? = some (passOf [] l x) := by rw [HPL.out, List.getElem?_map, hx]; rfl
          obtain ⟨pp, hpp⟩ : ∃ pp, pp = passOf [] l x := ⟨_, rfl⟩
          have hle := fifo_pass l s HSF.out k x hx x.thread x.ask
          have hle' : pp.1 ≤ k + ownTo l s l.length ∧ pp.2 = 0 := by rw [hpp]; exact hle
          rw [← hpp] at hpx
          have c0 := hc k pp hpx 0 _ rfl
          have c1 := hc k pp hpx 1 _ rfl
          simp only [Nat.add_zero] at c0
          rw [← hoo] at hle'
          have t1 : decide ((k : Int) + o < pp.1) = false := by simp; omega
          have t2 : (pp.2 != 0) = false := by rw [hle'.2]; rfl
          have t3 : pp.1 ≤ (k : Int) + o := by omega
          clear hc hx hpx hpp hle hle' hoo
          go_wp2
          go_round
          case rel => exact ⟨k + 1, by go_num, by omega⟩
          case measure => simp [intOf]; omega
    · go_wp2_with fail
      refine (awake14 _).mono ?_
      rintro en w4 ⟨rfl, hb⟩
      go_wp2
      go_ret
      exact ⟨rfl, HB3.out.trans (hb.mono HB3.out.size)⟩
end Go.Proofs.Ytfbiejkdeadheaa
