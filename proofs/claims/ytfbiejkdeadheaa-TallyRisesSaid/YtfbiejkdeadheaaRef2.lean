/- Layer 12: the document's next, behind, stay and Of. -/
import Derived.Test.YtfbiejkdeadheaaTal2
import Derived.Test.YtfbiejkdeadheaaRef1
namespace Go.Proofs.Ytfbiejkdeadheaa
open Go.RowKit Go.Maps

theorem nextTo_none {l : List Ev} {a kind t : Int} {k : Nat} (h : nextTo l a kind t k = -1) (hE : isE l k kind t = false) : nextTo l a kind t (k + 1) = -1 := by
  rw [nextTo_succ, h, if_neg (by omega), if_neg (fun h => by rw [hE] at h; exact absurd h.2.2 (by decide))]
theorem nextTo_hit {l : List Ev} {a kind t : Int} {k : Nat} (h : nextTo l a kind t k = -1) (ha : 0 ≤ a ∧ a ≤ k) (hE : isE l k kind t = true) (hk : k < l.length) : nextTo l a kind t l.length = k := by
  have h1 : nextTo l a kind t (k + 1) = k := by rw [nextTo_succ, h, if_neg (by omega), if_pos ⟨ha.1, ha.2, hE⟩]
  rw [nextTo_le l a kind t (show k + 1 ≤ l.length by omega) (by omega), h1]

set_option maxRecDepth 100000 in
set_option maxHeartbeats 1000000 in
theorem next_any (w : World) (ve : Value) (l : List Ev) (a kind t : Int) (he : RdL w ve 4 encE l) (ha : 0 ≤ a) (ha2 : a ≤ 100000) (hlen : l.length ≤ 60000) :
    Calls Try.prog 113 #[ve, .int .i64 a, .int .i64 kind, .int .i64 t] w fun e w' => e = .returned (.int .i64 (nextTo l a kind t l.length)) ∧ w = w' := by
  obtain ⟨A, cap, rfl, l1, l2, hr⟩ := he
  have HR := Lib.hid hr
  clear hr
  go_enter Try.func113, Try.ntmps113
  go_wp2
  go_loop [9] (fun i => ∃ k : Nat, i = .int .i64 k ∧ a ≤ k ∧ k ≤ 100000 ∧ ((k : Int) = a ∨ k ≤ l.length) ∧ nextTo l a kind t k = -1) (fun i => l.length - (intOf i).toNat)
  case atStart => exact ⟨a.toNat, by rw [Int.toNat_of_nonneg ha], by omega, by omega, by omega, nextTo_before l a kind t _ (by omega)⟩
  case round =>
    obtain ⟨k, rfl, hak, hk1, hk2, hn⟩ := hrel
    by_cases hlt : k < l.length
    · obtain ⟨bl, off, rfl, hbl, hc⟩ := HR.out (by omega)
      obtain ⟨e, he⟩ := getElem?_lt hlt
      have c0 := hc k e he 0 _ rfl
      have c1 := hc k e he 1 _ rfl
      simp only [Nat.add_zero] at c0
      have HE := Lib.hid (And.intro he hn)
      clear hc he hn hk2
      by_cases h1 : e.kind = kind
      · have b1 : (e.kind == kind) = true := by rw [beq_iff_eq]; exact h1
        by_cases h2 : e.thread = t
        · have b2 : (e.thread == t) = true := by rw [beq_iff_eq]; exact h2
          have hfin : nextTo l a kind t l.length = k := nextTo_hit HE.out.2 ⟨ha, hak⟩ (by rw [isE_eq HE.out.1]; exact decide_eq_true ⟨h1, h2⟩) hlt
          have HF := Lib.hid hfin
          clear h1 h2 hfin
          go_wp2
          go_ret
          exact ⟨ret_int HF.out.symm, rfl⟩
        · have b2 : (e.thread == t) = false := by rw [beq_eq_false_iff_ne]; exact h2
          have hfin : nextTo l a kind t (k + 1) = -1 := nextTo_none HE.out.2 (by rw [isE_eq HE.out.1]; exact decide_eq_false (fun h => h2 h.2))
          have HF := Lib.hid hfin
          clear h1 h2 hfin
          go_wp2
          go_round
          case rel => exact ⟨k + 1, by go_num, by omega, by omega, by omega, HF.out⟩
          case measure => simp [intOf]; omega
      · have b1 : (e.kind == kind) = false := by rw [beq_eq_false_iff_ne]; exact h1
        have hfin : nextTo l a kind t (k + 1) = -1 := nextTo_none HE.out.2 (by rw [isE_eq HE.out.1]; exact decide_eq_false (fun h => h1 h.1))
        have HF := Lib.hid hfin
        clear h1 hfin
        go_wp2
        go_round
        case rel => exact ⟨k + 1, by go_num, by omega, by omega, by omega, HF.out⟩
        case measure => simp [intOf]; omega
    · have hfin : nextTo l a kind t l.length = -1 := by
        by_cases h : k = l.length
        · rw [← h]; exact hn
        · exact nextTo_before l a kind t _ (by omega)
      have HF := Lib.hid hfin
      clear hfin hn hk2
      go_wp2
      go_ret
      exact ⟨ret_int HF.out.symm, rfl⟩

theorem behind_any (w : World) (ve : Value) (l : List Ev) (a kind t : Int) (he : RdL w ve 4 encE l) (ha : -1 ≤ a ∧ a ≤ 60000) (hlen : l.length ≤ 60000) :
    Calls Try.prog 105 #[ve, .int .i64 a, .int .i64 kind, .int .i64 t] w fun e w' => e = .returned (.int .i64 (behindTo l a kind t l.length)) ∧ w = w' := by
  obtain ⟨ha1, ha2⟩ := ha
  by_cases h0 : a < 0
  · go_enter Try.func105, Try.ntmps105
    go_wp2
    go_ret
    exact ⟨ret_int (behindTo_neg l a kind t _ h0).symm, rfl⟩
  · have hb := behindTo_pos l a kind t l.length (by omega)
    have N := next_any w ve l (a + 1) kind t he (by omega) (by omega) hlen
    rw [← hb] at N
    have HN := Lib.hid N
    clear N hb
    go_enter Try.func105, Try.ntmps105
    go_wp2_with (go_at_call 113; refine HN.out.mono ?_; rintro e w' ⟨rfl, rfl⟩)
    go_ret
    exact ⟨rfl, rfl⟩
theorem behind_call (w : World) (ve : Value) (l : List Ev) (a kind t b : Int) (hb : b = behindTo l a kind t l.length) (he : RdL w ve 4 encE l) (ha : -1 ≤ a ∧ a ≤ 60000) (hlen : l.length ≤ 60000) :
    Calls Try.prog 105 #[ve, .int .i64 a, .int .i64 kind, .int .i64 t] w fun e w' => e = .returned (.int .i64 b) ∧ w = w' := by rw [hb]; exact behind_any w ve l a kind t he ha hlen

set_option maxRecDepth 100000 in
set_option maxHeartbeats 1000000 in
theorem stay_any (w : World) (ve : Value) (l : List Ev) (i : Nat) (e : Ev) (he : RdL w ve 4 encE l) (hi : l[i]? = some e) (hlen : l.length ≤ 60000) :
    Calls Try.prog 85 #[ve, .int .i64 i] w fun en w' => en = .returned (.agg #[.int .i64 e.thread, .bool e.read, .int .i64 i, .int .i64 (stayTo l i e l.length).enter, .int .i64 (stayTo l i e l.length).exit, .int .i64 (stayTo l i e l.length).rest, .int .i64 (stayTo l i e l.length).count]) ∧ Below w.heap.size w w' := by
  have hil : i < l.length := (List.getElem?_eq_some_iff.1 hi).1
  obtain ⟨A, cap, rfl, l1, l2, hr⟩ := he
  have HRD : Hid (RdL w (.slice A l.length cap) 4 encE l) := Lib.hid ⟨A, cap, rfl, l1, l2, hr⟩
  obtain ⟨bl, off, rfl, hbl, hc⟩ := hr (by omega)
  have c1 := hc i e hi 1 _ rfl
  have c2 := hc i e hi 2 _ rfl
  have c3 := hc i e hi 3 _ rfl
  obtain ⟨x, hx⟩ : ∃ x, x = (stayTo l i e l.length).enter := ⟨_, rfl⟩
  obtain ⟨y, hy⟩ : ∃ y, y = (stayTo l i e l.length).exit := ⟨_, rfl⟩
  obtain ⟨z, hz⟩ : ∃ z, z = (stayTo l i e l.length).rest := ⟨_, rfl⟩
  obtain ⟨q, hq⟩ : ∃ q, q = (stayTo l i e l.length).count := ⟨_, rfl⟩
  rw [← hx, ← hy, ← hz, ← hq]
  have hx' : x = behindTo l i 2 e.thread l.length := hx
  have hy' : y = behindTo l x 3 e.thread l.length := by rw [hy, hx]; rfl
  have hz' : z = behindTo l y 4 e.thread l.length := by rw [hz, hy]; rfl
  have hq' : q = cntAt l x := by rw [hq, hx]; rfl
  have bx := behindTo_lt l i 2 e.thread l.length
  rw [← hx'] at bx
  have by_ := behindTo_lt l x 3 e.thread l.length
  rw [← hy'] at by_
  obtain ⟨bx1, bx2⟩ := bx
  obtain ⟨by1, by2⟩ := by_
  have HX := Lib.hid (And.intro hx' (And.intro hy' (And.intro hz' hq')))
  have HC := Lib.hid hc
  clear hr hc hi hx hy hz hq hx' hy' hz' hq'
  by_cases h0 : 0 ≤ x
  · obtain ⟨en, hen⟩ := getElem?_lt (show x.toNat < l.length by omega)
    have d3 := HC.out x.toNat en hen 3 _ rfl
    have hqe : q = en.count := by
      rw [HX.out.2.2.2]; unfold cntAt; rw [if_neg (by omega), hen]
    have HQ := Lib.hid hqe
    clear hen hqe
    go_enter Try.func85, Try.ntmps85
    go_wp2_with fail
    refine (behind_call _ _ l i 2 e.thread x HX.out.1 ((HRD.out.alloc _).alloc _) (by omega) hlen).mono ?_
    rintro en1 w' ⟨rfl, rfl⟩
    go_wp2_with fail
    refine (behind_call _ _ l x 3 e.thread y HX.out.2.1 ((HRD.out.alloc _).alloc _) (by omega) hlen).mono ?_
    rintro en1 w' ⟨rfl, rfl⟩
    go_wp2_with fail
    refine (behind_call _ _ l y 4 e.thread z HX.out.2.2.1 ((HRD.out.alloc _).alloc _) (by omega) hlen).mono ?_
    rintro en1 w' ⟨rfl, rfl⟩
    go_wp2
    refine bodyPost_ret (v := .agg #[.int .i64 e.thread, .bool e.read, .int .i64 i, .int .i64 x, .int .i64 y, .int .i64 z, .int .i64 en.count]) (by simp [results, Try.results85, go_sem]) rfl ⟨by rw [HQ.out], ?_⟩
    exact ((Below.refl _ _).alloc (Nat.le_refl _) _).alloc (by simp) _
  · have hqe : q = 0 := by rw [HX.out.2.2.2]; unfold cntAt; rw [if_pos (by omega)]
    have HQ := Lib.hid hqe
    clear hqe
    go_enter Try.func85, Try.ntmps85
    go_wp2_with fail
    refine (behind_call _ _ l i 2 e.thread x HX.out.1 ((HRD.out.alloc _).alloc _) (by omega) hlen).mono ?_
    rintro en1 w' ⟨rfl, rfl⟩
    go_wp2_with fail
    refine (behind_call _ _ l x 3 e.thread y HX.out.2.1 ((HRD.out.alloc _).alloc _) (by omega) hlen).mono ?_
    rintro en1 w' ⟨rfl, rfl⟩
    go_wp2_with fail
    refine (behind_call _ _ l y 4 e.thread z HX.out.2.2.1 ((HRD.out.alloc _).alloc _) (by omega) hlen).mono ?_
    rintro en1 w' ⟨rfl, rfl⟩
    go_wp2
    refine bodyPost_ret (v := .agg #[.int .i64 e.thread, .bool e.read, .int .i64 i, .int .i64 x, .int .i64 y, .int .i64 z, .int .i64 0]) (by simp [results, Try.results85, go_sem]) rfl ⟨by rw [HQ.out], ?_⟩
    exact ((Below.refl _ _).alloc (Nat.le_refl _) _).alloc (by simp) _
end Go.Proofs.Ytfbiejkdeadheaa
