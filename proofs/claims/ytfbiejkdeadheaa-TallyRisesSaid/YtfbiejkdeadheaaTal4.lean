/- Layer 12: slices.DeleteFunc over stays, at the closure of tally.Entries. -/
import Derived.Test.YtfbiejkdeadheaaTal3
import Derived.StillTailTactics
namespace Go.Proofs.Ytfbiejkdeadheaa
open Go.RowKit Go.Maps

theorem size_setCells (b : Nat) (vs : List Value) : ∀ (o : Nat) (w : World), (w.setCells b o vs).heap.size = w.heap.size := by
  induction vs with
  | nil => intro o w; rfl
  | cons u r ih => intro o w; rw [World.setCells, ih]; simp [World.setCell]

theorem flatMap_take (l : List Stay) : ∀ i, (l.flatMap encS).take (i * 7) = (l.take i).flatMap encS := by
  induction l with
  | nil => intro i; simp
  | cons a l ih =>
    intro i
    cases i with
    | zero => simp
    | succ i =>
      rw [List.flatMap_cons, List.take_succ_cons, List.flatMap_cons, List.take_append, encS_len, show (i + 1) * 7 - 7 = i * 7 from by omega, ih, List.take_of_length_le (by rw [encS_len]; omega)]

set_option maxRecDepth 100000 in
set_option maxHeartbeats 4000000 in
theorem delete_any (w : World) (base g cap : Nat) (l : List Stay) (hown : w.ownsRow base 103 7 (.slice (some ⟨g, 0, none⟩) l.length cap) l.length (l.flatMap encS)) (hlen : l.length ≤ 60000) (hcap : l.length ≤ cap) :
    Calls Try.prog 86 #[.slice (some ⟨g, 0, none⟩) l.length cap, .func (.func 87) #[] #[]] w fun e w' =>
      e = .returned (.slice (some ⟨g, 0, none⟩) (keepL l).length cap) ∧ w'.ownsRow base 103 7 (.slice (some ⟨g, 0, none⟩) (keepL l).length cap) (keepL l).length ((keepL l).flatMap encS) ∧ w.grownBy w' (some g) := by
  obtain ⟨i0, hi, hz0, hz1, hz2⟩ := info_parts Try.infoStay
  have hg := own_lt hown
  have HO := Lib.hid hown
  have HR : Hid (RdL w (.slice (some ⟨g, 0, none⟩) l.length cap) 7 encS l) := Lib.hid (RdL.of_own encS_len rfl (by omega) hown)
  clear hown
  go_enter Try.func86, Try.ntmps86
  go_wp2_with fail
  refine (indexOut_any _ _ l HR.out).mono ?_
  rintro en w1 ⟨z, rfl, ho, b1⟩
  have hown1 := HO.out.kept (grown_of_below b1 none) (.inr (by simp [Value.ownBlock]))
  rcases ho with ⟨rfl, hall⟩ | ⟨k, x, rfl, hx, hd, ha⟩
  · have hk := keepL_all l hall
    have HB := Lib.hid (And.intro hk b1)
    clear hall b1
    go_wp2
    go_ret
    refine ⟨by rw [HB.out.1]; rfl, ?_, grown_of_below HB.out.2 _⟩
    rw [HB.out.1]
    exact hown1
  · have hd0 := Del.start hx hd ha
    have hg1 := grown_of_below b1 (some g)
    have hlk : k < l.length := (List.getElem?_eq_some_iff.1 hx).1
    have HD := Lib.hid hd0
    clear hx hd ha hd0
    have hne : ((k : Int) == -1) = false := beq_eq_false_iff_ne.2 (by omega)
    go_wp2
    go_loopw [5, 6] (fun s5 s6 wr => ∃ (i j : Nat) (dk : List Stay), s5 = .int .i64 i ∧ s6 = .int .i64 j ∧ Hid (Del l dk i j) ∧ wr.ownsRow base 103 7 (.slice (some ⟨g, 0, none⟩) l.length cap) l.length (dk.flatMap encS) ∧ w.grownBy wr (some g)) (fun _ s6 _ => l.length - (intOf s6).toNat)
    case atStart => exact ⟨k, k + 1, l, rfl, by go_num, HD, hown1, hg1⟩
    case round =>
      clear hown1 hg1
      obtain ⟨i, j, dk, rfl, rfl, HD, hown, hgr⟩ := hrel
      have hij := HD.out.lt
      have hjl := HD.out.le
      have hds := HD.out.size
      by_cases hlt : j < l.length
      · obtain ⟨x, hx⟩ := getElem?_lt hlt
        have hxd : dk[j]? = some x := by rw [HD.out.at]; exact hx
        obtain ⟨y, hy⟩ := getElem?_lt (show i < dk.length by omega)
        have a0 := own_cell hown hds.symm hxd 0 _ rfl
        have a1 := own_cell hown hds.symm hxd 1 _ rfl
        have a2 := own_cell hown hds.symm hxd 2 _ rfl
        have a3 := own_cell hown hds.symm hxd 3 _ rfl
        have a4 := own_cell hown hds.symm hxd 4 _ rfl
        have a5 := own_cell hown hds.symm hxd 5 _ rfl
        have a6 := own_cell hown hds.symm hxd 6 _ rfl
        simp only [Nat.add_zero] at a0
        have HX := Lib.hid (And.intro hx hy)
        have HG := Lib.hid (And.intro hgr (own_lt hown))
        clear hx hxd hy hgr
        have kb : Blk (wr.alloc (.cells #[.int .i64 x.thread, .bool x.read, .int .i64 x.ask, .int .i64 x.enter, .int .i64 x.exit, .int .i64 x.rest, .int .i64 x.count] 103)) wr.heap.size 103 #[.int .i64 x.thread, .bool x.read, .int .i64 x.ask, .int .i64 x.enter, .int .i64 x.exit, .int .i64 x.rest, .int .i64 x.count] := Blk.new _ _ _
        have hgw : g < wr.heap.size := (own_lt hown).2
        have HK := Lib.hid kb
        have HOW := Lib.hid hown
        clear kb hown
        cases hin : inS x
        · have HI := Lib.hid hin
          clear hin
          go_wp2_with (go_at_call 87; go_loud (refine (notIn_call _ x true HI.out).mono ?_); rintro en w2 ⟨rfl, b2⟩)
          have o2 := (HOW.out.alloc (.cells #[.int .i64 x.thread, .bool x.read, .int .i64 x.ask, .int .i64 x.enter, .int .i64 x.exit, .int .i64 x.rest, .int .i64 x.count] 103)).kept (grown_of_below b2 none) (.inr (by simp [Value.ownBlock]))
          have g2 := grown_trans (grown_alloc HG.out.1 (.cells #[.int .i64 x.thread, .bool x.read, .int .i64 x.ask, .int .i64 x.enter, .int .i64 x.exit, .int .i64 x.rest, .int .i64 x.count] 103)) (grown_of_below b2 (some g))
          have HF := Lib.hid (And.intro o2 g2)
          clear b2 o2 g2
          go_roundw
          case rel => exact ⟨i, j + 1, dk, rfl, by go_num, Lib.hid (HD.out.skip HX.out.1 HI.out), HF.out.1, HF.out.2⟩
          case measure => first | (simp [intOf]; done) | (simp [intOf]; omega)
        · have HI := Lib.hid hin
          clear hin
          have BX0 : ∀ W, Below (wr.alloc (.cells #[.int .i64 x.thread, .bool x.read, .int .i64 x.ask, .int .i64 x.enter, .int .i64 x.exit, .int .i64 x.rest, .int .i64 x.count] 103)).heap.size (wr.alloc (.cells #[.int .i64 x.thread, .bool x.read, .int .i64 x.ask, .int .i64 x.enter, .int .i64 x.exit, .int .i64 x.rest, .int .i64 x.count] 103)) W →
            (W.cell? ⟨wr.heap.size, 0, none⟩ = some (.int .i64 x.thread) ∧ W.cell? ⟨wr.heap.size, 1, none⟩ = some (.bool x.read) ∧ W.cell? ⟨wr.heap.size, 2, none⟩ = some (.int .i64 x.ask) ∧ W.cell? ⟨wr.heap.size, 3, none⟩ = some (.int .i64 x.enter) ∧ W.cell? ⟨wr.heap.size, 4, none⟩ = some (.int .i64 x.exit) ∧ W.cell? ⟨wr.heap.size, 5, none⟩ = some (.int .i64 x.rest) ∧ W.cell? ⟨wr.heap.size, 6, none⟩ = some (.int .i64 x.count)) ∧
            (W.cell? ⟨g, i * 7, none⟩ = some (.int .i64 y.thread) ∧ W.cell? ⟨g, i * 7 + 1, none⟩ = some (.bool y.read) ∧ W.cell? ⟨g, i * 7 + 2, none⟩ = some (.int .i64 y.ask) ∧ W.cell? ⟨g, i * 7 + 3, none⟩ = some (.int .i64 y.enter) ∧ W.cell? ⟨g, i * 7 + 4, none⟩ = some (.int .i64 y.exit) ∧ W.cell? ⟨g, i * 7 + 5, none⟩ = some (.int .i64 y.rest) ∧ W.cell? ⟨g, i * 7 + 6, none⟩ = some (.int .i64 y.count)) ∧
            W.frozen? ⟨g, i * 7, none⟩ = false ∧ W.frozen? ⟨g, i * 7 + 1, none⟩ = false ∧ W.frozen? ⟨g, i * 7 + 2, none⟩ = false ∧ W.frozen? ⟨g, i * 7 + 3, none⟩ = false ∧ W.frozen? ⟨g, i * 7 + 4, none⟩ = false ∧ W.frozen? ⟨g, i * 7 + 5, none⟩ = false ∧ W.frozen? ⟨g, i * 7 + 6, none⟩ = false := fun W hW => by
            have k2 := HK.out.below hW (by simp)
            have o2 := (HOW.out.alloc (.cells #[.int .i64 x.thread, .bool x.read, .int .i64 x.ask, .int .i64 x.enter, .int .i64 x.exit, .int .i64 x.rest, .int .i64 x.count] 103)).kept (grown_of_below hW none) (.inr (by simp [Value.ownBlock]))
            exact ⟨⟨k2.cell 0, k2.cell 1, k2.cell 2, k2.cell 3, k2.cell 4, k2.cell 5, k2.cell 6⟩,
              ⟨own_cell o2 hds.symm HX.out.2 0 _ rfl, own_cell o2 hds.symm HX.out.2 1 _ rfl, own_cell o2 hds.symm HX.out.2 2 _ rfl, own_cell o2 hds.symm HX.out.2 3 _ rfl, own_cell o2 hds.symm HX.out.2 4 _ rfl, own_cell o2 hds.symm HX.out.2 5 _ rfl, own_cell o2 hds.symm HX.out.2 6 _ rfl⟩,
              own_free o2 _, own_free o2 _, own_free o2 _, own_free o2 _, own_free o2 _, own_free o2 _, own_free o2 _⟩
          have BX := Lib.hid BX0
          clear BX0
          go_wp2_with (go_at_call 87; go_loud (refine (notIn_call _ x false HI.out).mono ?_); rintro en w2 ⟨rfl, b2⟩; obtain ⟨⟨q0, q1, q2, q3, q4, q5, q6⟩, ⟨c0, c1, c2, c3, c4, c5, c6⟩, f0, f1, f2, f3, f4, f5, f6⟩ := BX.out w2 b2)
          have o2 := (HOW.out.alloc (.cells #[.int .i64 x.thread, .bool x.read, .int .i64 x.ask, .int .i64 x.enter, .int .i64 x.exit, .int .i64 x.rest, .int .i64 x.count] 103)).kept (grown_of_below b2 none) (.inr (by simp [Value.ownBlock]))
          have g2 := grown_trans (grown_alloc HG.out.1 (.cells #[.int .i64 x.thread, .bool x.read, .int .i64 x.ask, .int .i64 x.enter, .int .i64 x.exit, .int .i64 x.rest, .int .i64 x.count] 103)) (grown_of_below b2 (some g))
          obtain ⟨o3, g3⟩ := own_setAll (x := x) o2 HX.out.2
          have HF := Lib.hid (And.intro o3 (grown_trans g2 g3))
          clear b2 o2 g2 o3 g3
          go_roundw
          case rel => exact ⟨i + 1, j + 1, dk.set i x, by go_num, by go_num, Lib.hid (HD.out.keep HX.out.1 HI.out), HF.out.1, HF.out.2⟩
          case measure => first | (simp [intOf]; done) | (simp [intOf]; omega)
      · obtain rfl : j = l.length := by omega
        obtain ⟨e1, e2⟩ := HD.out.done
        have hcl : ∀ ty, (Builtin.clear_ #[54] ty #[.slice (some ⟨g, i * 7, none⟩) (l.length - i) (cap - i)]).run Try.prog wr = .ok (.tuple #[]) (wr.setCells g (i * 7) (Builtin.zeroCells (Value.agg #[.int .i64 0, .bool false, .int .i64 0, .int .i64 0, .int .i64 0, .int .i64 0, .int .i64 0]).cells (l.length - i)).toList) := fun ty =>
          run_clear_agg wr 54 103 ty _ Try.underlying54 Try.zeroValue103 (by simp [Value.cells, Value.oneCell']) (by simp [Value.cells]) g (i * 7) _ _ (by omega)
            (fun t ht => by
              have ht' : t < (l.length - i) * 7 := ht
              rw [hown.cellAt _ (by omega)]
              rw [List.getElem?_eq_getElem (by rw [hown.1]; omega)]
              rfl)
            (fun t _ => own_free hown _)
        obtain ⟨ys, y1, y2, y3⟩ := own_setCells (Builtin.zeroCells (Value.agg #[.int .i64 0, .bool false, .int .i64 0, .int .i64 0, .int .i64 0, .int .i64 0, .int .i64 0]).cells (l.length - i)).toList (i * 7) wr _ hown
        have y4 := own_cut y1 i (by omega)
        have y5 : ys.take (i * 7) = (keepL l).flatMap encS := by
          rw [y2, ← e1]
          exact flatMap_take dk i
        rw [y5] at y4
        have HF := Lib.hid (And.intro y4 (And.intro (grown_trans hgr y3) e2))
        clear y1 y2 y3 y4 y5 hown hgr e1 e2
        go_wp2
        go_ret
        rw [HF.out.2.2]
        exact ⟨rfl, HF.out.1, HF.out.2.1⟩
end Go.Proofs.Ytfbiejkdeadheaa
