/- Layer 12: the document's Fifo, and the walk of TallySays. -/
import Derived.Test.YtfbiejkdeadheaaTal10
namespace Go.Proofs.Ytfbiejkdeadheaa
open Go.RowKit Go.Maps

def okP (a b : Stay) : Prop := ¬ (0 ≤ b.enter ∧ (a.enter < 0 ∨ b.enter < a.enter))
theorem fifo_ok (l : List Ev) (h : ∀ s ∈ tallyL l, Rise l s) (ha : ∀ (i j : Nat) (a b : Stay), i < j → (tallyL l)[i]? = some a → (tallyL l)[j]? = some b → okP a b) : fifoB l (tallyL l) = true := by
  unfold fifoB
  generalize hn : (tallyL l).length - 1 = n
  clear hn
  induction n with
  | zero => rfl
  | succ n ih =>
    show (match (tallyL l)[n]?, (tallyL l)[n + 1]? with | some a, some b => decide (endS l a ≤ endS l b) && sortedFrom l (tallyL l) n | _, _ => sortedFrom l (tallyL l) n) = true
    split
    · rename_i a b ea eb
      rw [ih, Bool.and_true, decide_eq_true_eq]
      have := ha n (n + 1) a b (by omega) ea eb
      unfold okP at this
      have ra := h a (List.mem_of_getElem? ea)
      have rb := h b (List.mem_of_getElem? eb)
      have := ra.e1
      have := rb.e1
      unfold endS
      split <;> split <;> omega
    · exact ih
theorem fifo_no (l : List Ev) (h : ∀ s ∈ tallyL l, Rise l s) (i j : Nat) (a b : Stay) (hij : i < j) (hi : (tallyL l)[i]? = some a) (hj : (tallyL l)[j]? = some b) (hn : ¬ okP a b) : fifoB l (tallyL l) = false := by
  cases hf : fifoB l (tallyL l) with
  | false => rfl
  | true =>
    have hs := sorted_le l (tallyL l) hf (j - i) i a b hi (by rw [show i + (j - i) = j from by omega]; exact hj)
    have ra := (h a (List.mem_of_getElem? hi)).e1
    have rb := (h b (List.mem_of_getElem? hj)).e1
    unfold okP at hn
    unfold endS at hs
    exfalso
    apply hn
    intro hh
    split at hs <;> split at hs <;> omega

set_option maxRecDepth 100000 in
set_option maxHeartbeats 4000000 in
theorem rfifo_any (w : World) (v : Value) (l : List Ev) (h : RdL w v 4 encE l) (hlen : l.length ≤ 60000) :
    Calls Try.prog 59 #[v] w fun e w' => e = .returned (.bool (fifoB l (tallyL l))) ∧ Below w.heap.size w w' := by
  obtain ⟨A, cap, rfl, l1, l2, hr⟩ := h
  have HR : Hid (RdL w (.slice A l.length cap) 4 encE l) := Lib.hid ⟨A, cap, rfl, l1, l2, hr⟩
  clear hr
  go_enter Try.func59, Try.ntmps59
  go_wp2_with fail
  refine (refOf_any _ _ l HR.out hlen).mono ?_
  rintro en w1 ⟨v1, rfl, hown, hb⟩
  rw [← tally_eq_ref] at hown
  have htl := tallyL_len l
  have hri := (tally_rise l).1
  have hfo := fifo_ok l hri
  have hfn := fifo_no l hri
  obtain ⟨s, hs⟩ : ∃ s, s = tallyL l := ⟨_, rfl⟩
  rw [← hs] at hown htl hri hfo hfn
  obtain ⟨A1, c1, rfl⟩ := own_form hown
  have HS : Hid (RdL w1 (.slice A1 s.length c1) 7 encS s) := Lib.hid (RdL.of_own encS_len rfl (by omega) hown)
  have HFO := Lib.hid hfo
  have HFN := Lib.hid hfn
  have HL := Lib.hid hs
  have HB := Lib.hid hb
  clear hown hb hs hri hfo hfn
  go_wp2
  go_loopw [4] (fun i wr => ∃ k n : Nat, i = .int .i64 k ∧ k ≤ s.length ∧ (∀ (i j : Nat) (a b : Stay), i < j → j < k → s[i]? = some a → s[j]? = some b → okP a b) ∧ wr = w1.drewN n) (fun i _ => s.length - (intOf i).toNat)
  case atStart => exact ⟨0, 0, rfl, by omega, fun i j a b _ h => by omega, rfl⟩
  case round =>
    obtain ⟨k, n, rfl, hk, hok, rfl⟩ := hrel
    by_cases hlt : k < s.length
    · obtain ⟨x, hx⟩ := getElem?_lt hlt
      have HK := Lib.hid (And.intro hx hok)
      clear hx hok
      go_wp2
      go_loopw [5] (fun i wr => ∃ q n : Nat, i = .int .i64 q ∧ q ≤ k ∧ (∀ (i : Nat) (a : Stay), i < q → s[i]? = some a → okP a x) ∧ wr = w1.drewN n) (fun i _ => k - (intOf i).toNat)
      case atStart => exact ⟨0, n, rfl, by omega, fun i a h => by omega, rfl⟩
      case round =>
        obtain ⟨q, n, rfl, hq, hoq, rfl⟩ := hrel
        by_cases hql : q < k
        · obtain ⟨A', c', e', p1, p2, p3⟩ := HS.out
          obtain ⟨bl, off, q1, q2, hc⟩ := p3 (by omega)
          injection e' with e' _ e''
          subst e' e'' q1
          obtain ⟨y, hy⟩ := getElem?_lt (show q < s.length by omega)
          have a3 := hc k x HK.out.1 3 _ rfl
          have b3 := hc q y hy 3 _ rfl
          have hqs : q < s.length := by omega
          have HQ := Lib.hid (And.intro hy hoq)
          clear hc p3 hy hoq
          by_cases t1 : 0 ≤ x.enter
          · by_cases t2 : y.enter < 0
            · have HN := Lib.hid (HFN.out q k y x hql HQ.out.1 HK.out.1 (by unfold okP; omega))
              go_wp2
              go_quiet (fail)
              go_wp2
              go_ret
              exact ⟨by rw [← HL.out, HN.out]; rfl, below_drewN (below_drewN HB.out n) nq⟩
            · by_cases t3 : x.enter < y.enter
              · have HN := Lib.hid (HFN.out q k y x hql HQ.out.1 HK.out.1 (by unfold okP; omega))
                go_wp2
                go_quiet (fail)
                go_wp2
                go_ret
                exact ⟨by rw [← HL.out, HN.out]; rfl, below_drewN (below_drewN HB.out n) nq⟩
              · have HN : Hid (okP y x) := Lib.hid (by unfold okP; omega)
                go_wp2
                go_quiet (fail)
                go_wp2
                go_roundw
                case rel => exact ⟨q + 1, n + nq, by go_num, by omega, fun i a hi ha => by
                  rcases Nat.lt_or_ge i q with h' | h'
                  · exact HQ.out.2 i a h' ha
                  · obtain rfl : i = q := by omega
                    rw [HQ.out.1] at ha; injection ha with ha; subst ha; exact HN.out, by first | rfl | rw [World.drewN_drewN]⟩
                case measure => first | (simp [intOf]; done) | (simp [intOf]; omega)
          · have HN : Hid (okP y x) := Lib.hid (by unfold okP; omega)
            have t1a : x.enter < 0 := by omega
            have t1b : decide (0 ≤ x.enter) = false := decide_eq_false t1
            go_wp2
            go_quiet (fail)
            go_wp2
            go_roundw
            case rel => exact ⟨q + 1, n + nq, by go_num, by omega, fun i a hi ha => by
              rcases Nat.lt_or_ge i q with h' | h'
              · exact HQ.out.2 i a h' ha
              · obtain rfl : i = q := by omega
                rw [HQ.out.1] at ha; injection ha with ha; subst ha; exact HN.out, by first | rfl | rw [World.drewN_drewN]⟩
            case measure => first | (simp [intOf]; done) | (simp [intOf]; omega)
        · obtain rfl : q = k := by omega
          have HQ := Lib.hid hoq
          clear hoq
          go_wp2
          go_roundw
          case rel => exact ⟨q + 1, n, by go_num, by omega, fun i j a b hij hj ha hb => by
            rcases Nat.lt_or_ge j q with h' | h'
            · exact HK.out.2 i j a b hij h' ha hb
            · obtain rfl : j = q := by omega
              rw [HK.out.1] at hb; injection hb with hb; subst hb; exact HQ.out i a hij ha, rfl⟩
          case measure => first | (simp [intOf]; done) | (simp [intOf]; omega)
    · obtain rfl : k = s.length := by omega
      have HH := Lib.hid (HFO.out (fun i j a b hij ha hb => hok i j a b hij (List.getElem?_eq_some_iff.1 hb).1 ha hb))
      clear hok
      go_wp2
      go_ret
      exact ⟨by rw [← HL.out, HH.out]; rfl, below_drewN HB.out n⟩

theorem longT (w : World) (A : Option Addr) (m c : Nat) (h1 : 60 < m) (h2 : m ≤ 9223372036854775807) :
    Calls Try.prog 11 #[.slice A m c] w fun e w' => e = .returned (.bool true) ∧ Below w.heap.size w w' := by
  go_enter Try.func11, Try.ntmps11
  go_wp2_with fail
  refine (awake12 _).mono ?_
  rintro en w1 ⟨rfl, hb⟩
  go_wp2
  go_ret
  exact ⟨rfl, hb⟩

set_option maxRecDepth 100000 in
set_option maxHeartbeats 4000000 in
theorem says12 (w : World) (v : Value) (l : List Ev) (h : RdL w v 4 encE l) (hwf : ∀ e ∈ l, wfE e) (hl60 : l.length ≤ 60) :
    Calls Try.prog 11 #[v] w fun e w' => e = .returned (.bool true) ∧ Below w.heap.size w w' := by
  obtain ⟨A, cap, rfl, l1, l2, hr⟩ := h
  have HR : Hid (RdL w (.slice A l.length cap) 4 encE l) := Lib.hid ⟨A, cap, rfl, l1, l2, hr⟩
  have HW := Lib.hid hwf
  have htl := tallyL_len l
  have HRL := Lib.hid (tally_eq_ref l)
  clear hr hwf
  go_enter Try.func11, Try.ntmps11
  go_wp2_with fail
  refine (tallyOf_any _ _ l HR.out HW.out (by omega)).mono ?_
  rintro en w1 ⟨v1, rfl, hown1, b1⟩
  have r1 : Hid (RdL w1 v1 7 encS (tallyL l)) := Lib.hid (RdL.of_own encS_len rfl (by omega) hown1)
  have B1 := Lib.hid b1
  clear hown1 b1
  go_wp2_with fail
  refine (refOf_any _ _ l (HR.out.below B1.out (Nat.le_refl _)) (by omega)).mono ?_
  rintro en w2 ⟨v2, rfl, hown2, b2⟩
  rw [← HRL.out] at hown2
  have r2 : Hid (RdL w2 v2 7 encS (tallyL l)) := Lib.hid (RdL.of_own encS_len rfl (by omega) hown2)
  have r1' : Hid (RdL w2 v1 7 encS (tallyL l)) := Lib.hid (r1.out.below b2 (Nat.le_refl _))
  have B2 : Hid (Below w.heap.size w w2) := Lib.hid (B1.out.trans (b2.mono B1.out.size))
  clear hown2 b2 r1 B1
  go_wp2_with fail
  refine (sameStay_true _ _ _ _ _ rfl r1'.out r2.out).mono ?_
  rintro en w3 ⟨rfl, ⟨n3, rfl⟩⟩
  go_wp2_with fail
  refine (entries_any _ _ l ((HR.out.below B2.out (Nat.le_refl _)).drewN n3) HW.out (by omega)).mono ?_
  rintro en w4 ⟨v4, rfl, r4, b4⟩
  have R4 := Lib.hid r4
  have B4 : Hid (Below w.heap.size w w4) := Lib.hid ((below_drewN B2.out n3).trans (b4.mono B2.out.size))
  clear r4 b4
  go_wp2_with fail
  refine (rentries_any _ _ l (HR.out.below B4.out (Nat.le_refl _)) (by omega)).mono ?_
  rintro en w5 ⟨v5, rfl, r5, b5⟩
  have R5 := Lib.hid r5
  have R4' : Hid (RdL w5 v4 1 encI ((entTo (tallyL l) l.length).map Stay.thread)) := Lib.hid (R4.out.below b5 (Nat.le_refl _))
  have B5 : Hid (Below w.heap.size w w5) := Lib.hid (B4.out.trans (b5.mono B4.out.size))
  clear r5 b5
  go_wp2_with fail
  refine (sameInt_true _ _ _ _ _ rfl R4'.out R5.out).mono ?_
  rintro en w6 ⟨rfl, ⟨n6, rfl⟩⟩
  obtain ⟨q, hq⟩ : ∃ q, q = longL l (tallyL l) := ⟨_, rfl⟩
  have HQ := Lib.hid hq
  clear hq
  go_wp2_with fail
  refine (longest_call _ _ l q HQ.out ((HR.out.below B5.out (Nat.le_refl _)).drewN n6) HW.out (by omega)).mono ?_
  rintro en w7 ⟨rfl, b7⟩
  have B7 : Hid (Below w.heap.size w w7) := Lib.hid ((below_drewN B5.out n6).trans (b7.mono B5.out.size))
  clear b7
  go_wp2_with fail
  refine (rlongest_any _ _ l (HR.out.below B7.out (Nat.le_refl _)) (by omega)).mono ?_
  rintro en w8 ⟨rfl, b8⟩
  rw [← HQ.out]
  have B8 : Hid (Below w.heap.size w w8) := Lib.hid (B7.out.trans (b8.mono B7.out.size))
  have tq : (q == q) = true := by simp
  clear b8
  obtain ⟨f, hf⟩ : ∃ f, f = fifoB l (tallyL l) := ⟨_, rfl⟩
  have HF := Lib.hid hf
  clear hf
  have tf : (f == f) = true := by simp
  go_wp2_with fail
  refine (fifo_call2 _ _ l f HF.out.symm (HR.out.below B8.out (Nat.le_refl _)) HW.out (by omega)).mono ?_
  rintro en w9 ⟨rfl, b9⟩
  have B9 : Hid (Below w.heap.size w w9) := Lib.hid (B8.out.trans (b9.mono B8.out.size))
  clear b9
  go_wp2_with fail
  refine (rfifo_any _ _ l (HR.out.below B9.out (Nat.le_refl _)) (by omega)).mono ?_
  rintro en w10 ⟨rfl, b10⟩
  rw [← HF.out]
  have B10 : Hid (Below w.heap.size w w10) := Lib.hid (B9.out.trans (b10.mono B9.out.size))
  clear b10
  go_wp2_with fail
  refine (awake12 _).mono ?_
  rintro en w11 ⟨rfl, b11⟩
  have B11 : Hid (Below w.heap.size w w11) := Lib.hid (B10.out.trans (b11.mono B10.out.size))
  clear b11
  go_wp2
  go_ret
  exact ⟨rfl, B11.out⟩
end Go.Proofs.Ytfbiejkdeadheaa
