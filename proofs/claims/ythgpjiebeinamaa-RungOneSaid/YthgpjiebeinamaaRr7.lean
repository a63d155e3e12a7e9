/- Layer 26: the document's new rung; an act with either rung; all words. -/
import Derived.Test.YthgpjiebeinamaaRr6
namespace Go.Proofs.Ythgpjiebeinamaa
open Go.RowKit

def RNew (w : World) (b room : Nat) (n : Int) (e : Ending) (w' : World) : Prop :=
  if newRgOk ⟨[], room, 0, 0, 0, false⟩ n = 0 then ∃ y gw cap q cq, e = .returned (.tuple #[.pointer (some ⟨y, 0, none⟩), .int .i64 0]) ∧ RrIs w' y b gw cap q cq 1 (newR room n.toNat) ∧ w.heap.size ≤ y ∧ w.heap.size ≤ gw ∧ w.heap.size ≤ q ∧ Turns [b] w w'
  else e = .returned (.tuple #[.pointer none, .int .i64 (newRgOk ⟨[], room, 0, 0, 0, false⟩ n)]) ∧ Turns [b] w w'
set_option maxRecDepth 100000 in
set_option maxHeartbeats 1000000 in
theorem rnew_any {w : World} {b room : Nat} (h : RaNew w b room) (hroom : room ≤ 4096) (n : Int) :
    Calls Try.prog 20 #[.pointer (some ⟨b, 0, none⟩), .int .i64 n] w (RNew w b room n) := by
  have H := Lib.hid h
  have hbl := Blk.lt h
  clear h
  by_cases h0 : n < 1 ∨ 32 < n
  · have HE : Hid (newRgOk ⟨[], room, 0, 0, 0, false⟩ n = 1) := Lib.hid (by unfold newRgOk; rw [if_pos h0])
    by_cases h1 : n < 1
    · clear h0
      go_enter Try.func20, Try.ntmps20
      go_wp2
      go_ret2
      unfold RNew
      rw [HE.out, if_neg (by decide)]
      exact ⟨rfl, Turns.refl _ _⟩
    · have h2 : 32 < n := by omega
      clear h0
      go_enter Try.func20, Try.ntmps20
      go_wp2
      go_ret2
      unfold RNew
      rw [HE.out, if_neg (by decide)]
      exact ⟨rfl, Turns.refl _ _⟩
  · obtain ⟨m, rfl⟩ := Int.eq_ofNat_of_zero_le (show 0 ≤ n by omega)
    have h1 : ¬ (m : Int) < 1 := by omega
    have h2 : ¬ 32 < (m : Int) := by omega
    have hm : m ≤ 32 := by omega
    have HT := Lib.hid (rtake_any H.out hroom (n := 2 * m + 1) (by omega) (by omega))
    have hc : ((2 * m + 1 : Nat) : Int) = 1 + 2 * (m : Int) := by omega
    rw [hc] at HT
    by_cases h3 : room < 2 * m + 1
    · have HE : Hid (newRgOk ⟨[], room, 0, 0, 0, false⟩ m = 3) := Lib.hid (by unfold newRgOk; rw [if_neg h0, if_pos (by simp; omega)])
      have H3 := Lib.hid h3
      clear h0 h3 hc
      go_enter Try.func20, Try.ntmps20
      go_wp2_with fail
      refine HT.out.mono ?_
      rintro en w1 h
      unfold RTake at h
      rw [if_pos H3.out] at h
      obtain ⟨rfl, t1⟩ := h
      have H1 := Lib.hid t1
      clear t1
      go_wp2
      go_ret2
      unfold RNew
      rw [HE.out, if_neg (by decide)]
      exact ⟨rfl, H1.out⟩
    · have HE : Hid (newRgOk ⟨[], room, 0, 0, 0, false⟩ m = 0) := Lib.hid (by unfold newRgOk; rw [if_neg h0, if_neg (by simp; omega)])
      have H3 := Lib.hid h3
      clear h0 h3 hc
      go_enter Try.func20, Try.ntmps20
      go_wp2_with fail
      refine HT.out.mono ?_
      rintro en w1 h
      unfold RTake at h
      rw [if_neg H3.out] at h
      obtain ⟨gw, cap, rfl, ra, hgw, t1⟩ := h
      have H1 := Lib.hid (And.intro ra (And.intro hgw t1))
      clear ra hgw t1
      go_wp2_with fail
      refine (spots_any _ m hm).mono ?_
      rintro en w2 ⟨v, rfl, hown, hb2⟩
      obtain ⟨q, cq, rfl, hq0, hq1⟩ := own_form1 hown (by omega)
      have H2 := Lib.hid (And.intro hown hb2)
      clear hown hb2
      go_wp2
      go_ret2
      unfold RNew
      rw [HE.out, if_pos rfl]
      have hs1 := H1.out.2.2.size
      have hs2 := H2.out.2.size
      have hra2 := H1.out.1.turns (Turns.of_below (S := []) H2.out.2) (by simp) (by simp)
      have hgl := (H1.out.1.wds.lt gw rfl).2
      have hgw := H1.out.2.1
      have ta : ∀ o, Turns [] w2 (w2.alloc o) := fun o => (Turns.refl _ _).alloc o
      refine ⟨w2.heap.size, gw, cap, q, cq, rfl, ⟨?_, ?_, ?_, by omega, by omega, by omega, by omega, by omega, by simp [newR]; omega⟩, by omega, by omega, by omega, ?_⟩
      · have := hra2.turns (ta (.cells #[.pointer (some ⟨b, 0, none⟩), .int .i64 1, .slice (some ⟨q, 0, none⟩) m cq] 58)) (by simp) (by simp)
        simpa [newR] using this
      · have := Blk.new w2 58 #[.pointer (some ⟨b, 0, none⟩), .int .i64 1, .slice (some ⟨q, 0, none⟩) m cq]
        simpa [newR] using this
      · have h4 := Turns.own H2.out.1 (ta (.cells #[.pointer (some ⟨b, 0, none⟩), .int .i64 1, .slice (some ⟨q, 0, none⟩) m cq] 58)) (by simp)
        simp only [newR, List.length_replicate, Int.toNat_natCast]
        rcases h4.2 with ⟨h', _⟩ | ⟨g', cap', cur, h', r1, r2, r3⟩
        · simp at h'
        · exact ⟨h4.1, .inr ⟨g', cap', cur, h', Nat.zero_le _, r2, r3⟩⟩
      · exact (H1.out.2.2.trans (Turns.of_below H2.out.2)).alloc _

def actRg (r : Rg) (t kind i v : Int) : Rg × Bool := if kind = 0 then stepRg r t i else if kind = 1 then beginRg r i 0 1 else if kind = 2 then withRg r i 11 v else if kind = 3 then withRg r i 15 v else (r, false)
theorem actRg_pc {r : Rg} (h : ∀ p ∈ r.S, pcOk p) (t k i v : Int) : ∀ p ∈ (actRg r t k i v).1.S, pcOk p := by
  unfold actRg
  split
  · exact stepRg_pc h t i
  · split
    · exact beginRg_pc h i 0 1 (.inl ⟨by omega, by omega⟩)
    · split
      · exact withRg_pc h i 11 v (.inr ⟨by omega, by omega⟩)
      · split
        · exact withRg_pc h i 15 v (.inr ⟨by omega, by omega⟩)
        · exact h
theorem actRg_ops (r : Rg) (t k i v : Int) : (actRg r t k i v).1.ar.ops ≤ r.ar.ops + 1 := by
  unfold actRg
  split
  · exact stepRg_ops r t i
  · split
    · rw [beginRg_ar]; omega
    · split
      · rw [withRg_ar]; omega
      · split
        · rw [withRg_ar]; omega
        · simp
def actV (k i v : Int) : Value := .agg #[.int .i64 k, .int .i64 i, .int .i64 v]
set_option maxRecDepth 100000 in
set_option maxHeartbeats 1000000 in
theorem do_any {w : World} {l a g q : Nat} {t : Int} {r : Rg} (h : RgIs w l a g q t r) (ho : r.ar.ops + 1 ≤ 1000000000000) (hpc : ∀ p ∈ r.S, pcOk p) (k i v : Int) :
    Calls Try.prog 17 #[.pointer (some ⟨l, 0, none⟩), actV k i v] w (RgOk w l a g q t (actRg r t k i v)) := by
  have hb : Below w.heap.size w (w.alloc (.cells #[.int .i64 k, .int .i64 i, .int .i64 v] 40)) := (Below.refl _ _).alloc (Nat.le_refl _) _
  have h1 := h.below hb
  have HW := Lib.hid (And.intro h1 hb)
  have HPC := Lib.hid hpc
  clear h h1 hb hpc
  unfold actV
  obtain ⟨x, hx⟩ : ∃ x, x = actRg r t k i v := ⟨_, rfl⟩
  rw [← hx]
  by_cases k0 : k = 0
  · have e : x = stepRg r t i := by rw [hx]; unfold actRg; rw [if_pos k0]
    have HX := Lib.hid e
    clear e hx
    subst k0
    go_enter Try.func17, Try.ntmps17
    go_wp2_with fail
    refine (step_any HW.out.1 i ho HPC.out).mono ?_
    rw [← HX.out]
    rintro en w1 ⟨rfl, h1, t1⟩
    have H1 := Lib.hid (And.intro h1 ((Turns.of_below (S := [a, g, q]) HW.out.2).trans t1))
    clear h1 t1 HX
    obtain ⟨r', bb⟩ := x
    go_wp2
    go_ret
    exact ⟨rfl, H1.out.1, H1.out.2⟩
  · by_cases k1 : k = 1
    · have e : x = beginRg r i 0 1 := by rw [hx]; unfold actRg; rw [if_neg k0, if_pos k1]
      have HX := Lib.hid e
      clear e hx
      subst k1
      clear k0
      go_enter Try.func17, Try.ntmps17
      go_wp2_with fail
      refine (ask_any HW.out.1 i).mono ?_
      rw [← HX.out]
      rintro en w1 ⟨rfl, h1, t1⟩
      have H1 := Lib.hid (And.intro h1 ((Turns.of_below (S := [a, g, q]) HW.out.2).trans (t1.mono (by simp))))
      clear h1 t1 HX
      obtain ⟨r', bb⟩ := x
      go_wp2
      go_ret
      exact ⟨rfl, H1.out.1, H1.out.2⟩
    · by_cases k2 : k = 2
      · have e : x = withRg r i 11 v := by rw [hx]; unfold actRg; rw [if_neg k0, if_neg k1, if_pos k2]
        have HX := Lib.hid e
        clear e hx
        subst k2
        clear k0 k1
        go_enter Try.func17, Try.ntmps17
        go_wp2_with fail
        refine (leave_any HW.out.1 i v).mono ?_
        rw [← HX.out]
        rintro en w1 ⟨rfl, h1, t1⟩
        have H1 := Lib.hid (And.intro h1 ((Turns.of_below (S := [a, g, q]) HW.out.2).trans (t1.mono (by simp))))
        clear h1 t1 HX
        obtain ⟨r', bb⟩ := x
        go_wp2
        go_ret
        exact ⟨rfl, H1.out.1, H1.out.2⟩
      · by_cases k3 : k = 3
        · have e : x = withRg r i 15 v := by rw [hx]; unfold actRg; rw [if_neg k0, if_neg k1, if_neg k2, if_pos k3]
          have HX := Lib.hid e
          clear e hx
          subst k3
          clear k0 k1 k2
          go_enter Try.func17, Try.ntmps17
          go_wp2_with fail
          refine (pass_any HW.out.1 i v).mono ?_
          rw [← HX.out]
          rintro en w1 ⟨rfl, h1, t1⟩
          have H1 := Lib.hid (And.intro h1 ((Turns.of_below (S := [a, g, q]) HW.out.2).trans (t1.mono (by simp))))
          clear h1 t1 HX
          obtain ⟨r', bb⟩ := x
          go_wp2
          go_ret
          exact ⟨rfl, H1.out.1, H1.out.2⟩
        · have e : x = (r, false) := by rw [hx]; unfold actRg; rw [if_neg k0, if_neg k1, if_neg k2, if_neg k3]
          have n0 : (k == 0) = false := by simpa using k0
          have n1 : (k == 1) = false := by simpa using k1
          have n2 : (k == 2) = false := by simpa using k2
          have n3 : (k == 3) = false := by simpa using k3
          have HX := Lib.hid e
          clear e hx k0 k1 k2 k3
          go_enter Try.func17, Try.ntmps17
          go_wp2
          go_ret
          rw [HX.out]
          exact ⟨rfl, HW.out.1, Turns.of_below HW.out.2⟩
set_option maxRecDepth 100000 in
set_option maxHeartbeats 1000000 in
theorem done_any {w : World} {y b gw cap q cq : Nat} {t : Int} {r : Rg} (h : RrIs w y b gw cap q cq t r) (ho : r.ar.ops + 1 ≤ 1000000000000) (hpc : ∀ p ∈ r.S, pcOk p) (k i v : Int) :
    Calls Try.prog 21 #[.pointer (some ⟨y, 0, none⟩), actV k i v] w (RrOk w y b gw cap q cq t (actRg r t k i v)) := by
  have hb : Below w.heap.size w (w.alloc (.cells #[.int .i64 k, .int .i64 i, .int .i64 v] 40)) := (Below.refl _ _).alloc (Nat.le_refl _) _
  have h1 := h.below hb
  have HW := Lib.hid (And.intro h1 hb)
  have HPC := Lib.hid hpc
  clear h h1 hb hpc
  unfold actV
  obtain ⟨x, hx⟩ : ∃ x, x = actRg r t k i v := ⟨_, rfl⟩
  rw [← hx]
  by_cases k0 : k = 0
  · have e : x = stepRg r t i := by rw [hx]; unfold actRg; rw [if_pos k0]
    have HX := Lib.hid e
    clear e hx
    subst k0
    go_enter Try.func21, Try.ntmps21
    go_wp2_with fail
    refine (rstep_any HW.out.1 i ho HPC.out).mono ?_
    rw [← HX.out]
    rintro en w1 ⟨rfl, h1, t1⟩
    have H1 := Lib.hid (And.intro h1 ((Turns.of_below (S := [b, gw, q]) HW.out.2).trans t1))
    clear h1 t1 HX
    obtain ⟨r', bb⟩ := x
    go_wp2
    go_ret
    exact ⟨rfl, H1.out.1, H1.out.2⟩
  · by_cases k1 : k = 1
    · have e : x = beginRg r i 0 1 := by rw [hx]; unfold actRg; rw [if_neg k0, if_pos k1]
      have HX := Lib.hid e
      clear e hx
      subst k1
      clear k0
      go_enter Try.func21, Try.ntmps21
      go_wp2_with fail
      refine (rask_any HW.out.1 i).mono ?_
      rw [← HX.out]
      rintro en w1 ⟨rfl, h1, t1⟩
      have H1 := Lib.hid (And.intro h1 ((Turns.of_below (S := [b, gw, q]) HW.out.2).trans (t1.mono (by simp))))
      clear h1 t1 HX
      obtain ⟨r', bb⟩ := x
      go_wp2
      go_ret
      exact ⟨rfl, H1.out.1, H1.out.2⟩
    · by_cases k2 : k = 2
      · have e : x = withRg r i 11 v := by rw [hx]; unfold actRg; rw [if_neg k0, if_neg k1, if_pos k2]
        have HX := Lib.hid e
        clear e hx
        subst k2
        clear k0 k1
        go_enter Try.func21, Try.ntmps21
        go_wp2_with fail
        refine (rleave_any HW.out.1 i v).mono ?_
        rw [← HX.out]
        rintro en w1 ⟨rfl, h1, t1⟩
        have H1 := Lib.hid (And.intro h1 ((Turns.of_below (S := [b, gw, q]) HW.out.2).trans (t1.mono (by simp))))
        clear h1 t1 HX
        obtain ⟨r', bb⟩ := x
        go_wp2
        go_ret
        exact ⟨rfl, H1.out.1, H1.out.2⟩
      · by_cases k3 : k = 3
        · have e : x = withRg r i 15 v := by rw [hx]; unfold actRg; rw [if_neg k0, if_neg k1, if_neg k2, if_pos k3]
          have HX := Lib.hid e
          clear e hx
          subst k3
          clear k0 k1 k2
          go_enter Try.func21, Try.ntmps21
          go_wp2_with fail
          refine (rpass_any HW.out.1 i v).mono ?_
          rw [← HX.out]
          rintro en w1 ⟨rfl, h1, t1⟩
          have H1 := Lib.hid (And.intro h1 ((Turns.of_below (S := [b, gw, q]) HW.out.2).trans (t1.mono (by simp))))
          clear h1 t1 HX
          obtain ⟨r', bb⟩ := x
          go_wp2
          go_ret
          exact ⟨rfl, H1.out.1, H1.out.2⟩
        · have e : x = (r, false) := by rw [hx]; unfold actRg; rw [if_neg k0, if_neg k1, if_neg k2, if_neg k3]
          have n0 : (k == 0) = false := by simpa using k0
          have n1 : (k == 1) = false := by simpa using k1
          have n2 : (k == 2) = false := by simpa using k2
          have n3 : (k == 3) = false := by simpa using k3
          have HX := Lib.hid e
          clear e hx k0 k1 k2 k3
          go_enter Try.func21, Try.ntmps21
          go_wp2
          go_ret
          rw [HX.out]
          exact ⟨rfl, HW.out.1, Turns.of_below HW.out.2⟩
set_option maxRecDepth 100000 in
set_option maxHeartbeats 1000000 in
theorem words_any {w : World} {a g : Nat} {s : Ar} (h : ArIs w a g s) :
    Calls Try.prog 22 #[.pointer (some ⟨a, 0, none⟩)] w fun e w' => ∃ v, e = .returned v ∧ RdL w' v 1 encI s.W ∧ Below w.heap.size w w' := by
  obtain ⟨i0, hi, hz0, hz1, hz2⟩ := info_parts Try.infoI
  have hle := h.le
  have hro := h.room
  have H := Lib.hid h
  have c0 := h.c0
  have hal := h.blk.lt
  clear h
  go_enter Try.func22, Try.ntmps22
  go_wp2_with fail
  refine (len_any H.out).mono ?_
  rintro en w1 ⟨rfl, rfl⟩
  go_wp2
  go_loopw [3, 7] (fun v i wr => ∃ (k : Nat), i = .int .i64 k ∧ k ≤ s.W.length ∧ wr.ownsRow w.heap.size 3 1 v k ((s.W.take k).flatMap encI) ∧ Below w.heap.size w wr) (fun _ i _ => s.W.length - (intOf i).toNat)
  case atStart => exact ⟨0, rfl, by omega, World.ownsRow_nil _ _ _ _, Below.refl _ _⟩
  case round =>
    obtain ⟨k, rfl, hk, hown, hb⟩ := hrel
    have hA := H.out.turns (S := []) (Turns.of_below hb) (by simp) (by simp)
    by_cases hlt : k < s.W.length
    · obtain ⟨A', cp, rfl⟩ := own_form hown
      have c1 := hA.c0
      have hwd := (hA.word (i := k) hlt).1
      have hsz := hb.size
      have hkr : (k : Int) < s.room := by omega
      have HB := Lib.hid (And.intro hb hA)
      obtain ⟨z, hz⟩ : ∃ z, z = s.W.getD k 0 := ⟨_, rfl⟩
      rw [← hz] at hwd
      have hget : s.W[k]? = some z := by rw [hz, List.getD_eq_getElem?_getD, List.getElem?_eq_getElem hlt]; rfl
      have HZ := Lib.hid hget
      have HWD := Lib.hid hwd
      clear hb hA hz hget hwd c0
      go_wp2_with fail
      refine (aload _ _ z HWD.out rfl).mono ?_
      rintro en w2 ⟨rfl, rfl⟩
      go_wp2_with (at_builtin; refine wpList_append_own _ rfl _ _ 22 rfl w.heap.size 3 i0 (.int .i64 0) 1 8 Try.underlying22 hi hz0 hz1 hz2 rfl (by decide) _ _ _ rfl (hown.alloc _) ⟨wr.heap.size, 0, none⟩ 1 1 (encI z) rfl rfl (cell_one wr 3 (.int .i64 z) rfl) (by intro u hu; simp [encI] at hu; subst hu; rfl) ?c3 ?c4 ?c5 ?_)
      case c3 => unfold maxLen; omega
      case c4 => omega
      case c5 => simp; omega
      intro v' w2 h2 hg2 _
      have h3 : w2.ownsRow w.heap.size 3 1 v' (k + 1) ((s.W.take (k + 1)).flatMap encI) := by
        rw [take_succ_of HZ.out, List.flatMap_append]
        simpa using h2
      have HF := Lib.hid (And.intro h3 ((HB.out.1.alloc hsz (.cells #[.int .i64 z] 3)).grown hg2 (by simp; omega) (fun j hj => (hown.lt j hj).1)))
      clear h2 hg2 h3 hown
      go_wp2
      go_roundw
      case rel => first | exact ⟨k + 1, by go_num, by omega, HF.out.1, HF.out.2⟩ | ((repeat apply Exists.intro); exact ⟨⟨k + 1, by go_num, by omega, HF.out.1, HF.out.2⟩, rfl⟩)
      case measure => simp [intOf]; omega
    · obtain rfl : k = s.W.length := by omega
      rw [List.take_length] at hown
      have HB := Lib.hid (And.intro hown hb)
      clear hown hb hA
      go_wp2
      go_ret
      exact ⟨_, rfl, RdL.of_own encI_len rfl (by omega) HB.out.1, HB.out.2⟩
end Go.Proofs.Ythgpjiebeinamaa
