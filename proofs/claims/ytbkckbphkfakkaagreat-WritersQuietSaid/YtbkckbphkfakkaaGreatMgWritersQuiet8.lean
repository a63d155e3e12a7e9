/- Joined: Qw7, Qw8, Xq1, Xq2. -/
import Derived.WalkKit
import Derived.WalkSpells
import Derived.ProofKit
import Derived.Below
import Derived.Test.YtbkckbphkfakkaaGreatMgWritersQuiet7
section
/- Layer 38 (writers): a reader's step. (written by wip/gen_qu.py) -/
namespace Go.Proofs.YtbkckbphkfakkaaGreat
open Go.RowKit

section
variable {B : Nat → Prop} {w w' : World} {x : QWx} {P T : List Int} {s s' : Ar} {S S' : List Sp}
set_option maxRecDepth 100000 in
set_option maxHeartbeats 1000000 in
theorem quietW (h : QWIs B w x P T s S) (ho : s.ops + 1 ≤ 1000000000000) (hw : WQ (leavesL P).length (loadA s (2 * ((leavesL P).length : Int) + 1))) :
    Calls Tryz.prog 88 #[.pointer (some ⟨x.l, 0, none⟩)] w fun e w' => e = .returned (.bool true) ∧ QWIs B w' x P T (loadA s (2 * ((leavesL P).length : Int) + 1)) S ∧ Turns [x.a, x.g] w w' := by
  have H := Lib.hid h
  have Hd := Lib.hid (h.below ((Below.refl _ _).drew))
  have HG0 := load_any (w := w.drew) (h.below ((Below.refl _ _).drew)).ar (2 * ((leavesL P).length : Int) + 1) ho
  rw [h.wq.fl] at HG0
  have c0 : w.cell? ⟨x.l, 0, none⟩ = some (.pointer (some ⟨x.a, 0, none⟩)) := h.lk.cell 0
  have c4 : w.cell? ⟨x.l, 4, none⟩ = some (.int .i64 (2 * ((leavesL P).length : Int) + 1)) := h.lk.cell 4
  obtain ⟨f, hf⟩ : ∃ f : Int, f = 2 * ((leavesL P).length : Int) + 1 := ⟨_, rfl⟩
  rw [← hf] at HG0 c4 hw ⊢
  have HF := Lib.hid hf
  have HG := Lib.hid HG0
  clear hf HG0
  have HWq := Lib.hid hw
  clear h hw ho
  go_enter Tryz.func88, Tryz.ntmps88
  go_wp2_with fail
  go_region_held3 (fun W => W.cell? ⟨x.l, 0, none⟩ = some (.pointer (some ⟨x.a, 0, none⟩)) ∧ W.cell? ⟨x.l, 4, none⟩ = some (.int .i64 f))
    (first | exact ⟨c0, c4⟩ | exact M3.out)
    (first | (go_at_call 43; go_loud (refine HG.out.mono ?_); rintro en w3 ⟨rfl, k3, t3⟩; have H3 := Lib.hid (And.intro k3 t3); have K3 := Lib.hid (Hd.out.arT H3.out.1 H3.out.2 HWq.out); have M3 := Lib.hid (show w3.cell? ⟨x.l, 0, none⟩ = some (.pointer (some ⟨x.a, 0, none⟩)) ∧ w3.cell? ⟨x.l, 4, none⟩ = some (.int .i64 f) from ⟨K3.out.lk.cell 0, by rw [HF.out]; exact K3.out.lk.cell 4⟩); clear k3 t3))
  all_goals
    go_wp2
    go_ret
    exact ⟨rfl, K3.out, ((Turns.refl _ _).drew).trans H3.out.2⟩
set_option maxRecDepth 100000 in
set_option maxHeartbeats 1000000 in
theorem read1W (h : QWIs B w x P T s S) {n : Nat} (hn : n < T.length) {nd : Nat} (hd : nd < (leavesL P).length) (hx : (nodesTo P T T.length)[n]? = some (nd : Int)) (ho : s.ops + 1 ≤ 1000000000000) (hw : WQ (leavesL P).length (loadA s (2 * ((leavesL P).length : Int) + 1))) :
    Calls Tryz.prog 59 #[.pointer (some ⟨x.l, 0, none⟩), .int .i64 n, .int .i64 1] w fun e w' => e = .returned (.int .i64 2) ∧ QWIs B w' x P T (loadA s (2 * ((leavesL P).length : Int) + 1)) S ∧ Turns [x.a, x.g] w w' := by
  have H := Lib.hid h
  have c1 : w.cell? ⟨x.l, 1, none⟩ = some (.pointer (some ⟨x.b, 0, none⟩)) := h.lk.cell 1
  have HNd := Lib.hid (nodeF w x.b P T n hn h.tb.f nd hx)
  have HG := Lib.hid (quietW h ho hw)
  have HWq := Lib.hid hw
  clear h hw ho hx
  go_enter Tryz.func59, Tryz.ntmps59
  go_wp2_with fail
  refine HNd.out.mono ?_
  rintro en w2 ⟨rfl, rfl⟩
  go_wp2_with fail
  refine HG.out.mono ?_
  rintro en w3 ⟨rfl, k3, t3⟩
  have H3 := Lib.hid (And.intro k3 t3)
  clear k3 t3
  go_wp2
  go_ret
  exact ⟨rfl, H3.out.1, H3.out.2⟩
set_option maxRecDepth 100000 in
set_option maxHeartbeats 1000000 in
theorem read2W (h : QWIs B w x P T s S) {n : Nat} (hn : n < T.length) {nd : Nat} (hd : nd < (leavesL P).length) (hx : (nodesTo P T T.length)[n]? = some (nd : Int)) (ho : s.ops + 1 ≤ 1000000000000) (hw : WQ (leavesL P).length (addA s (2 * (nd : Int) + 1) 1)) :
    Calls Tryz.prog 59 #[.pointer (some ⟨x.l, 0, none⟩), .int .i64 n, .int .i64 2] w fun e w' => e = .returned (.int .i64 3) ∧ QWIs B w' x P T (addA s (2 * (nd : Int) + 1) 1) S ∧ Turns [x.a, x.g] w w' := by
  have H := Lib.hid h
  have c1 : w.cell? ⟨x.l, 1, none⟩ = some (.pointer (some ⟨x.b, 0, none⟩)) := h.lk.cell 1
  have HNd := Lib.hid (nodeF w x.b P T n hn h.tb.f nd hx)
  have c2 : w.cell? ⟨x.l, 2, none⟩ = some (.pointer (some ⟨x.gg, 0, none⟩)) := h.lk.cell 2
  have HG := Lib.hid (gaEnter h.ga h.ar nd hd h.n32.2 ho)
  have HWq := Lib.hid hw
  clear h hw ho hx
  go_enter Tryz.func59, Tryz.ntmps59
  go_wp2_with fail
  refine HNd.out.mono ?_
  rintro en w2 ⟨rfl, rfl⟩
  go_wp2_with fail
  refine HG.out.mono ?_
  rintro en w3 ⟨rfl, k3, t3⟩
  have H3 := Lib.hid (And.intro k3 t3)
  clear k3 t3
  go_wp2
  go_ret
  exact ⟨rfl, H.out.arT H3.out.1 H3.out.2 HWq.out, H3.out.2⟩
set_option maxRecDepth 100000 in
set_option maxHeartbeats 1000000 in
theorem read3W (h : QWIs B w x P T s S) {n : Nat} (hn : n < T.length) {nd : Nat} (hd : nd < (leavesL P).length) (hx : (nodesTo P T T.length)[n]? = some (nd : Int)) (ho : s.ops + 1 ≤ 1000000000000) (hw : WQ (leavesL P).length (loadA s (2 * ((leavesL P).length : Int) + 1))) :
    Calls Tryz.prog 59 #[.pointer (some ⟨x.l, 0, none⟩), .int .i64 n, .int .i64 3] w fun e w' => e = .returned (.int .i64 10) ∧ QWIs B w' x P T (loadA s (2 * ((leavesL P).length : Int) + 1)) S ∧ Turns [x.a, x.g] w w' := by
  have H := Lib.hid h
  have c1 : w.cell? ⟨x.l, 1, none⟩ = some (.pointer (some ⟨x.b, 0, none⟩)) := h.lk.cell 1
  have HNd := Lib.hid (nodeF w x.b P T n hn h.tb.f nd hx)
  have HG := Lib.hid (quietW h ho hw)
  have HWq := Lib.hid hw
  clear h hw ho hx
  go_enter Tryz.func59, Tryz.ntmps59
  go_wp2_with fail
  refine HNd.out.mono ?_
  rintro en w2 ⟨rfl, rfl⟩
  go_wp2_with fail
  refine HG.out.mono ?_
  rintro en w3 ⟨rfl, k3, t3⟩
  have H3 := Lib.hid (And.intro k3 t3)
  clear k3 t3
  go_wp2
  go_ret
  exact ⟨rfl, H3.out.1, H3.out.2⟩
set_option maxRecDepth 100000 in
set_option maxHeartbeats 1000000 in
theorem read11W (h : QWIs B w x P T s S) {n : Nat} (hn : n < T.length) {nd : Nat} (hd : nd < (leavesL P).length) (hx : (nodesTo P T T.length)[n]? = some (nd : Int)) (ho : s.ops + 1 ≤ 1000000000000) (hw : WQ (leavesL P).length (addA s (2 * (nd : Int) + 1 + 1) 1)) :
    Calls Tryz.prog 59 #[.pointer (some ⟨x.l, 0, none⟩), .int .i64 n, .int .i64 11] w fun e w' => e = .returned (.int .i64 0) ∧ QWIs B w' x P T (addA s (2 * (nd : Int) + 1 + 1) 1) S ∧ Turns [x.a, x.g] w w' := by
  have H := Lib.hid h
  have c1 : w.cell? ⟨x.l, 1, none⟩ = some (.pointer (some ⟨x.b, 0, none⟩)) := h.lk.cell 1
  have HNd := Lib.hid (nodeF w x.b P T n hn h.tb.f nd hx)
  have c2 : w.cell? ⟨x.l, 2, none⟩ = some (.pointer (some ⟨x.gg, 0, none⟩)) := h.lk.cell 2
  have HG := Lib.hid (gaExit h.ga h.ar nd hd h.n32.2 ho)
  have HWq := Lib.hid hw
  clear h hw ho hx
  go_enter Tryz.func59, Tryz.ntmps59
  go_wp2_with fail
  refine HNd.out.mono ?_
  rintro en w2 ⟨rfl, rfl⟩
  go_wp2_with fail
  refine HG.out.mono ?_
  rintro en w3 ⟨rfl, k3, t3⟩
  have H3 := Lib.hid (And.intro k3 t3)
  clear k3 t3
  go_wp2
  go_ret
  exact ⟨rfl, H.out.arT H3.out.1 H3.out.2 HWq.out, H3.out.2⟩
def StDW (B : Nat → Prop) (w : World) (x : QWx) (P T : List Int) (s : Ar) (S : List Sp) (i : Int) (e : Ending) (w' : World) : Prop := ∃ r s', e = .returned (.bool r) ∧ QWIs B w' x P T s' (stS true S i) ∧ s'.ops ≤ s.ops + 1 ∧ WrOk s s' (ownQ P T i) ∧ Turns [x.a, x.g, x.q] w w'
set_option maxRecDepth 100000 in
set_option maxHeartbeats 16000000 in
theorem stepWQ (h : QWIs B w x P T s S) (i : Int) (ho : s.ops + 1 ≤ 1000000000000) : Calls Tryz.prog 30 #[.pointer (some ⟨x.l, 0, none⟩), .int .i64 i] w (StDW B w x P T s S i) := by
  have H := Lib.hid h
  have hfp := field_pc
  have hn32 := h.n32
  have HS := Lib.hid (spotWQ h i)
  by_cases h0 : (getS S i).pc = 0 ∨ (getS S i).pc = 10
  · have HA : Hid (stS true S i = S) := Lib.hid (by unfold stS; rw [if_neg (fun k => by omega)])
    obtain ⟨p, hp⟩ : ∃ p, p = getS S i := ⟨_, rfl⟩
    rw [← hp] at HS h0
    clear h hp
    rcases h0 with h0 | h0
    · have y1 : (p.pc == 0) = true := by simpa using h0
      go_enter Tryz.func30, Tryz.ntmps30
      go_wp2_with fail
      refine HS.out.mono ?_
      rintro en w1 ⟨rfl, b1⟩
      unfold spotV
      have H1 := Lib.hid (And.intro (H.out.below b1) b1)
      clear b1
      go_wp2
      go_ret
      unfold StDW
      rw [HA.out]
      exact ⟨_, s, rfl, H1.out.1.below ((Below.refl _ _).alloc (Nat.le_refl _) _), by omega, fun h => absurd h (Nat.lt_irrefl _), (Turns.of_below H1.out.2).alloc _⟩
    · have y1 : (p.pc == 0) = false := by simp; omega
      have y2 : (p.pc == 10) = true := by simpa using h0
      go_enter Tryz.func30, Tryz.ntmps30
      go_wp2_with fail
      refine HS.out.mono ?_
      rintro en w1 ⟨rfl, b1⟩
      unfold spotV
      have H1 := Lib.hid (And.intro (H.out.below b1) b1)
      clear b1
      go_wp2
      go_ret
      unfold StDW
      rw [HA.out]
      exact ⟨_, s, rfl, H1.out.1.below ((Below.refl _ _).alloc (Nat.le_refl _) _), by omega, fun h => absurd h (Nat.lt_irrefl _), (Turns.of_below H1.out.2).alloc _⟩
  · have hok : okI S i := by
      apply Classical.byContradiction
      intro hn
      rw [getS_out hn] at h0
      exact h0 (.inl rfl)
    obtain ⟨k0, k1⟩ := id hok
    rw [h.sl] at k1
    obtain ⟨n, rfl⟩ := Int.eq_ofNat_of_zero_le k0
    have t4 : n < T.length := by omega
    have hg : getS S (n : Int) = sv S n := getQ_nat (by rw [h.sl]; exact t4)
    have hrd := h.ok n t4
    obtain ⟨nd, hd, hx, hq⟩ := nodeWQ h t4
    have HOw : Hid (ownQ P T n = 2 * (nd : Int) + 1) := Lib.hid (by unfold ownQ; rw [if_pos ⟨by omega, by omega⟩, Int.toNat_natCast, hq])
    have HWs := h.wq.step hd true (sv S n)
    have HR := Lib.hid hrd.step
    have HA : Hid (stS true S n = S.set n (spQ true (sv S n))) := Lib.hid (by unfold stS; rw [hg, if_pos ⟨hok, by rw [hg] at h0; omega⟩, Int.toNat_natCast])
    rw [hg] at HS h0
    have hp : S[n]? = some (sv S n) := by
      have hl : n < S.length := by rw [h.sl]; exact t4
      unfold sv; rw [List.getD_eq_getElem?_getD, List.getElem?_eq_getElem hl]; rfl
    have HC : Hid (∀ W s', QWIs B W x P T s' S → W.cell? ⟨x.l, 0, none⟩ = some (.pointer (some ⟨x.a, 0, none⟩)) ∧ W.cell? ⟨x.l, 4, none⟩ = some (.int .i64 (2 * ((leavesL P).length : Int) + 1)) ∧ W.cell? ⟨x.l, 6, none⟩ = some (.slice (some ⟨x.q, 0, none⟩) T.length T.length) ∧ W.cell? ⟨x.q, n * 4, none⟩ = some (.int .i64 (sv S n).pc) ∧ W.frozen? ⟨x.q, n * 4, none⟩ = false) := Lib.hid fun W s' hW => ⟨hW.lk.cell 0, hW.lk.cell 4, hW.lk.cell 6, by have := hW.sp.cell hp 0 _ rfl; simpa using this, hW.sp.free _⟩
    obtain ⟨N, hN⟩ : ∃ N, N = (leavesL P).length := ⟨_, rfl⟩
    have hpc : (sv S n).pc = 1 ∨ (sv S n).pc = 2 ∨ (sv S n).pc = 3 ∨ (sv S n).pc = 11 := by
      rcases hrd.1 with e | e | e | e3 | e | e
      · omega
      · exact .inl e
      · exact .inr (.inl e)
      · exact .inr (.inr (.inl e3.1))
      · omega
      · exact .inr (.inr (.inr e))
    have t2 : ¬ (n : Int) < 0 := by omega
    have HD := Lib.hid (And.intro hd hx)
    obtain ⟨p, hpp⟩ : ∃ p, p = sv S n := ⟨_, rfl⟩
    have HPP := Lib.hid hpp
    rw [← hpp] at HS HC hpc HWs HR HA
    have HWS := Lib.hid HWs
    have ha1 : p.a = 1 := by rw [hpp]; exact hrd.2 (by rcases hpc with e | e | e | e <;> rw [hpp] at e <;> omega)
    clear h h0 hok k0 k1 hg hrd hx hq hd HWs hp hpp
    have fin : Hid (∀ (W : World) (s' : Ar) (p' : Sp) (W' : World) (r : Bool), p' = spQ true p → W' = W.setCell ⟨x.q, n * 4, none⟩ (.int .i64 p'.pc) → p' = { p with pc := p'.pc } → QWIs B W x P T s' S → s'.ops ≤ s.ops + 1 → WrOk s s' (2 * (nd : Int) + 1) → Turns [x.a, x.g, x.q] w W → StDW B w x P T s S n (.returned (.bool r)) W') := Lib.hid fun W s' p' W' r e1 e2 e3 k1 k2 k3 k4 => by
      unfold StDW
      rw [HA.out, HOw.out, ← e1, e2]
      exact ⟨r, s', rfl, k1.put t4 (j := 0) (by decide) (by rw [← HPP.out, e3]; rfl) (by rw [e1]; exact HR.out), k2, k3, k4.setCell (.inl (by simp)) _⟩
    rcases hpc with e | e | e | e
    · have y1 : (p.pc == 0) = false := by simp; omega
      have y2 : (p.pc == 10) = false := by simp; omega
      have hWL : WQ (leavesL P).length (loadA s (2 * ((leavesL P).length : Int) + 1)) ∧ (loadA s (2 * ((leavesL P).length : Int) + 1)).ops ≤ s.ops + 1 ∧ WrOk s (loadA s (2 * ((leavesL P).length : Int) + 1)) (2 * (nd : Int) + 1) := by
        have h9 := HWS.out
        unfold arQ at h9
        unfold WrOk
        simpa [e] using h9
      have HWL := Lib.hid hWL
      clear hWL
      go_enter Tryz.func30, Tryz.ntmps30
      go_wp2_with fail
      refine HS.out.mono ?_
      rintro en w1 ⟨rfl, b1⟩
      unfold spotV
      have H1 := Lib.hid (And.intro (H.out.below b1) b1)
      clear b1
      go_upto_region 2 with fail
      obtain ⟨sb, hsb⟩ : ∃ y, y = w1.heap.size := ⟨_, rfl⟩
      obtain ⟨wa, hwa⟩ : ∃ W, W = w1.alloc (.cells #[.int .i64 1, .int .i64 1, .int .i64 p.b, .int .i64 p.c] 44) := ⟨_, rfl⟩
      try rw [e, ha1]
      rw [← hwa, ← hsb]
      have HA1 := Lib.hid (show QWIs B wa x P T s S ∧ Below w1.heap.size w1 wa ∧ Blk wa sb 44 #[.int .i64 1, .int .i64 1, .int .i64 p.b, .int .i64 p.c] ∧ sb ∉ [x.a, x.g] from ⟨by rw [hwa]; exact H1.out.1.below ((Below.refl _ _).alloc (Nat.le_refl _) _), by rw [hwa]; exact (Below.refl _ _).alloc (Nat.le_refl _) _, by rw [hwa, hsb]; exact Blk.new _ _ _, by have q1 := H1.out.1.ar.blk.lt; have q2 := H1.out.1.ar.wds.lt; simp; omega⟩)
      clear hwa hsb
      have v0 : wa.cell? ⟨sb, 0, none⟩ = some (.int .i64 1) := HA1.out.2.2.1.cell 0
      have v1 : wa.cell? ⟨sb, 1, none⟩ = some (.int .i64 1) := HA1.out.2.2.1.cell 1
      have HRe := Lib.hid (read1W HA1.out.1 t4 HD.out.1 HD.out.2 ho HWL.out.1)
      go_wp2_with fail
      refine HRe.out.mono ?_
      rintro en w3 ⟨rfl, k3, t3⟩
      have H3 := Lib.hid (And.intro k3 t3)
      clear k3 t3
      obtain ⟨m0, m4, m6, mq, mz⟩ := HC.out _ _ H3.out.1
      rw [e] at mq
      clear v0 v1
      go_wp2
      go_ret
      exact fin.out w3 _ { p with pc := 2 } _ _ (by unfold spQ; simp [e]) rfl rfl H3.out.1 HWL.out.2.1 HWL.out.2.2 (((Turns.of_below H1.out.2).trans (Turns.of_below HA1.out.2.1)).trans (H3.out.2.mono (by simp)))
    · have y1 : (p.pc == 0) = false := by simp; omega
      have y2 : (p.pc == 10) = false := by simp; omega
      have hWL : WQ (leavesL P).length (addA s (2 * (nd : Int) + 1) 1) ∧ (addA s (2 * (nd : Int) + 1) 1).ops ≤ s.ops + 1 ∧ WrOk s (addA s (2 * (nd : Int) + 1) 1) (2 * (nd : Int) + 1) := by
        have h9 := HWS.out
        unfold arQ at h9
        unfold WrOk
        simpa [e] using h9
      have HWL := Lib.hid hWL
      clear hWL
      go_enter Tryz.func30, Tryz.ntmps30
      go_wp2_with fail
      refine HS.out.mono ?_
      rintro en w1 ⟨rfl, b1⟩
      unfold spotV
      have H1 := Lib.hid (And.intro (H.out.below b1) b1)
      clear b1
      go_upto_region 2 with fail
      obtain ⟨sb, hsb⟩ : ∃ y, y = w1.heap.size := ⟨_, rfl⟩
      obtain ⟨wa, hwa⟩ : ∃ W, W = w1.alloc (.cells #[.int .i64 2, .int .i64 1, .int .i64 p.b, .int .i64 p.c] 44) := ⟨_, rfl⟩
      try rw [e, ha1]
      rw [← hwa, ← hsb]
      have HA1 := Lib.hid (show QWIs B wa x P T s S ∧ Below w1.heap.size w1 wa ∧ Blk wa sb 44 #[.int .i64 2, .int .i64 1, .int .i64 p.b, .int .i64 p.c] ∧ sb ∉ [x.a, x.g] from ⟨by rw [hwa]; exact H1.out.1.below ((Below.refl _ _).alloc (Nat.le_refl _) _), by rw [hwa]; exact (Below.refl _ _).alloc (Nat.le_refl _) _, by rw [hwa, hsb]; exact Blk.new _ _ _, by have q1 := H1.out.1.ar.blk.lt; have q2 := H1.out.1.ar.wds.lt; simp; omega⟩)
      clear hwa hsb
      have v0 : wa.cell? ⟨sb, 0, none⟩ = some (.int .i64 2) := HA1.out.2.2.1.cell 0
      have v1 : wa.cell? ⟨sb, 1, none⟩ = some (.int .i64 1) := HA1.out.2.2.1.cell 1
      have HRe := Lib.hid (read2W HA1.out.1 t4 HD.out.1 HD.out.2 ho HWL.out.1)
      go_wp2_with fail
      refine HRe.out.mono ?_
      rintro en w3 ⟨rfl, k3, t3⟩
      have H3 := Lib.hid (And.intro k3 t3)
      clear k3 t3
      obtain ⟨m0, m4, m6, mq, mz⟩ := HC.out _ _ H3.out.1
      rw [e] at mq
      clear v0 v1
      go_wp2
      go_ret
      exact fin.out w3 _ { p with pc := 3 } _ _ (by unfold spQ; simp [e]) rfl rfl H3.out.1 HWL.out.2.1 HWL.out.2.2 (((Turns.of_below H1.out.2).trans (Turns.of_below HA1.out.2.1)).trans (H3.out.2.mono (by simp)))
    · have y1 : (p.pc == 0) = false := by simp; omega
      have y2 : (p.pc == 10) = false := by simp; omega
      have hWL : WQ (leavesL P).length (loadA s (2 * ((leavesL P).length : Int) + 1)) ∧ (loadA s (2 * ((leavesL P).length : Int) + 1)).ops ≤ s.ops + 1 ∧ WrOk s (loadA s (2 * ((leavesL P).length : Int) + 1)) (2 * (nd : Int) + 1) := by
        have h9 := HWS.out
        unfold arQ at h9
        unfold WrOk
        simpa [e] using h9
      have HWL := Lib.hid hWL
      clear hWL
      go_enter Tryz.func30, Tryz.ntmps30
      go_wp2_with fail
      refine HS.out.mono ?_
      rintro en w1 ⟨rfl, b1⟩
      unfold spotV
      have H1 := Lib.hid (And.intro (H.out.below b1) b1)
      clear b1
      go_upto_region 2 with fail
      obtain ⟨sb, hsb⟩ : ∃ y, y = w1.heap.size := ⟨_, rfl⟩
      obtain ⟨wa, hwa⟩ : ∃ W, W = w1.alloc (.cells #[.int .i64 3, .int .i64 1, .int .i64 p.b, .int .i64 p.c] 44) := ⟨_, rfl⟩
      try rw [e, ha1]
      rw [← hwa, ← hsb]
      have HA1 := Lib.hid (show QWIs B wa x P T s S ∧ Below w1.heap.size w1 wa ∧ Blk wa sb 44 #[.int .i64 3, .int .i64 1, .int .i64 p.b, .int .i64 p.c] ∧ sb ∉ [x.a, x.g] from ⟨by rw [hwa]; exact H1.out.1.below ((Below.refl _ _).alloc (Nat.le_refl _) _), by rw [hwa]; exact (Below.refl _ _).alloc (Nat.le_refl _) _, by rw [hwa, hsb]; exact Blk.new _ _ _, by have q1 := H1.out.1.ar.blk.lt; have q2 := H1.out.1.ar.wds.lt; simp; omega⟩)
      clear hwa hsb
      have v0 : wa.cell? ⟨sb, 0, none⟩ = some (.int .i64 3) := HA1.out.2.2.1.cell 0
      have v1 : wa.cell? ⟨sb, 1, none⟩ = some (.int .i64 1) := HA1.out.2.2.1.cell 1
      have HRe := Lib.hid (read3W HA1.out.1 t4 HD.out.1 HD.out.2 ho HWL.out.1)
      go_wp2_with fail
      refine HRe.out.mono ?_
      rintro en w3 ⟨rfl, k3, t3⟩
      have H3 := Lib.hid (And.intro k3 t3)
      clear k3 t3
      obtain ⟨m0, m4, m6, mq, mz⟩ := HC.out _ _ H3.out.1
      rw [e] at mq
      clear v0 v1
      go_wp2
      go_ret
      exact fin.out w3 _ { p with pc := 10 } _ _ (by unfold spQ; simp [e]) rfl rfl H3.out.1 HWL.out.2.1 HWL.out.2.2 (((Turns.of_below H1.out.2).trans (Turns.of_below HA1.out.2.1)).trans (H3.out.2.mono (by simp)))
    · have y1 : (p.pc == 0) = false := by simp; omega
      have y2 : (p.pc == 10) = false := by simp; omega
      have hWL : WQ (leavesL P).length (addA s (2 * (nd : Int) + 1 + 1) 1) ∧ (addA s (2 * (nd : Int) + 1 + 1) 1).ops ≤ s.ops + 1 ∧ WrOk s (addA s (2 * (nd : Int) + 1 + 1) 1) (2 * (nd : Int) + 1) := by
        have h9 := HWS.out
        unfold arQ at h9
        unfold WrOk
        simpa [e] using h9
      have HWL := Lib.hid hWL
      clear hWL
      go_enter Tryz.func30, Tryz.ntmps30
      go_wp2_with fail
      refine HS.out.mono ?_
      rintro en w1 ⟨rfl, b1⟩
      unfold spotV
      have H1 := Lib.hid (And.intro (H.out.below b1) b1)
      clear b1
      go_upto_region 2 with fail
      obtain ⟨sb, hsb⟩ : ∃ y, y = w1.heap.size := ⟨_, rfl⟩
      obtain ⟨wa, hwa⟩ : ∃ W, W = w1.alloc (.cells #[.int .i64 11, .int .i64 1, .int .i64 p.b, .int .i64 p.c] 44) := ⟨_, rfl⟩
      try rw [e, ha1]
      rw [← hwa, ← hsb]
      have HA1 := Lib.hid (show QWIs B wa x P T s S ∧ Below w1.heap.size w1 wa ∧ Blk wa sb 44 #[.int .i64 11, .int .i64 1, .int .i64 p.b, .int .i64 p.c] ∧ sb ∉ [x.a, x.g] from ⟨by rw [hwa]; exact H1.out.1.below ((Below.refl _ _).alloc (Nat.le_refl _) _), by rw [hwa]; exact (Below.refl _ _).alloc (Nat.le_refl _) _, by rw [hwa, hsb]; exact Blk.new _ _ _, by have q1 := H1.out.1.ar.blk.lt; have q2 := H1.out.1.ar.wds.lt; simp; omega⟩)
      clear hwa hsb
      have v0 : wa.cell? ⟨sb, 0, none⟩ = some (.int .i64 11) := HA1.out.2.2.1.cell 0
      have v1 : wa.cell? ⟨sb, 1, none⟩ = some (.int .i64 1) := HA1.out.2.2.1.cell 1
      have HRe := Lib.hid (read11W HA1.out.1 t4 HD.out.1 HD.out.2 ho HWL.out.1)
      go_wp2_with fail
      refine HRe.out.mono ?_
      rintro en w3 ⟨rfl, k3, t3⟩
      have H3 := Lib.hid (And.intro k3 t3)
      clear k3 t3
      obtain ⟨m0, m4, m6, mq, mz⟩ := HC.out _ _ H3.out.1
      rw [e] at mq
      clear v0 v1
      go_wp2
      go_ret
      exact fin.out w3 _ { p with pc := 0 } _ _ (by unfold spQ; simp [e]) rfl rfl H3.out.1 HWL.out.2.1 HWL.out.2.2 (((Turns.of_below H1.out.2).trans (Turns.of_below HA1.out.2.1)).trans (H3.out.2.mono (by simp)))
end
end Go.Proofs.YtbkckbphkfakkaaGreat
end
section
/- Layer 38 (writers): the law's helpers: do, in, made. (written by wip/gen_qu.py) -/
namespace Go.Proofs.YtbkckbphkfakkaaGreat
open Go.RowKit

section
variable {B : Nat → Prop} {w w' : World} {x : QWx} {P T : List Int} {s s' : Ar} {S S' : List Sp}
def actWQ (S : List Sp) (kd i : Int) : List Sp := if kd = 0 then stS true S i else if kd = 2 then lvS S i else if kd = 3 then askS S i else S
set_option maxHeartbeats 1000000 in
theorem doWQ (h : QWIs B w x P T s S) (kd i : Int) (hk : kd ≠ 1) (ho : s.ops + 1 ≤ 1000000000000) :
    Calls Tryz.prog 27 #[.pointer (some ⟨x.l, 0, none⟩), .agg #[.int .i64 kd, .int .i64 i]] w fun e w' => ∃ r s', e = .returned (.bool r) ∧ QWIs B w' x P T s' (actWQ S kd i) ∧ s'.ops ≤ s.ops + 1 ∧ WrOk s s' (ownQ P T i) ∧ Turns [x.a, x.g, x.q] w w' := by
  have hd : Below w.heap.size w (w.alloc (.cells #[.int .i64 kd, .int .i64 i] 34)) := (Below.refl _ _).alloc (Nat.le_refl _) _
  have HW := Lib.hid (And.intro (h.below hd) hd)
  clear h hd
  unfold actWQ
  have no : Hid (WrOk s s (ownQ P T i)) := Lib.hid (fun h => absurd h (Nat.lt_irrefl _))
  by_cases k0 : kd = 0
  · rw [if_pos k0]
    subst k0
    clear hk
    go_enter Tryz.func27, Tryz.ntmps27
    go_wp2_with fail
    refine (stepWQ HW.out.1 i ho).mono ?_
    rintro en w1 ⟨b, s', rfl, h1, h2, h3, h4⟩
    have H1 := Lib.hid (And.intro h1 (And.intro h2 (And.intro h3 h4)))
    clear h1 h2 h3 h4
    go_wp2
    go_ret
    exact ⟨_, s', rfl, H1.out.1, H1.out.2.1, H1.out.2.2.1, (Turns.of_below HW.out.2).trans H1.out.2.2.2⟩
  · rw [if_neg k0]
    have u0 : (kd == 0) = false := by simpa using k0
    have u1 : (kd == 1) = false := by simpa using hk
    by_cases k2 : kd = 2
    · rw [if_pos k2]
      subst k2
      clear hk k0
      go_enter Tryz.func27, Tryz.ntmps27
      go_wp2_with fail
      refine (leaveWQ HW.out.1 i).mono ?_
      rintro en w1 ⟨b, rfl, h1, h4⟩
      have H1 := Lib.hid (And.intro h1 h4)
      clear h1 h4
      go_wp2
      go_ret
      exact ⟨_, s, rfl, H1.out.1, by omega, no.out, (Turns.of_below HW.out.2).trans H1.out.2⟩
    · rw [if_neg k2]
      have u2 : (kd == 2) = false := by simpa using k2
      by_cases k3 : kd = 3
      · rw [if_pos k3]
        subst k3
        clear hk k0 k2
        go_enter Tryz.func27, Tryz.ntmps27
        go_wp2_with fail
        refine (askWQ HW.out.1 i).mono ?_
        rintro en w1 ⟨b, rfl, h1, h4⟩
        have H1 := Lib.hid (And.intro h1 h4)
        clear h1 h4
        go_wp2
        go_ret
        exact ⟨_, s, rfl, H1.out.1, by omega, no.out, (Turns.of_below HW.out.2).trans H1.out.2⟩
      · rw [if_neg k3]
        have u3 : (kd == 3) = false := by simpa using k3
        clear hk k0 k2 k3
        go_enter Tryz.func27, Tryz.ntmps27
        go_wp2
        go_ret
        exact ⟨_, s, rfl, HW.out.1, by omega, no.out, Turns.of_below HW.out.2⟩
set_option maxHeartbeats 1000000 in
theorem inWQ (h : QWIs B w x P T s S) (hh : ∀ j, j < T.length → HoldQ (sv S j)) :
    Calls Tryz.prog 32 #[.pointer (some ⟨x.l, 0, none⟩), .int .i64 T.length] w fun e w' => e = .returned (.tuple #[.int .i64 T.length, .int .i64 0]) ∧ Below w.heap.size w w' := by
  have H := Lib.hid h
  have HH := Lib.hid hh
  have hn32 := h.n32
  clear h hh
  go_enter Tryz.func32, Tryz.ntmps32
  go_wp2
  go_loopw [6, 7, 8] (fun rd wt kk wr => ∃ j : Nat, kk = .int .i64 j ∧ j ≤ T.length ∧ rd = .int .i64 j ∧ wt = .int .i64 0 ∧ Below w.heap.size w wr) (fun _ _ kk _ => T.length - (intOf kk).toNat)
  case atStart => exact ⟨0, rfl, by omega, rfl, rfl, Below.refl _ _⟩
  case round =>
    obtain ⟨j, rfl, hj, rfl, rfl, hb⟩ := hrel
    obtain ⟨wo, rfl⟩ : ∃ wo : World, wo = wr := ⟨_, rfl⟩
    have HB := Lib.hid hb
    have hsz := hb.size
    clear hb
    by_cases hjs : j < T.length
    · have hg : getS S (j : Int) = sv S j := getQ_nat (by rw [H.out.sl]; exact hjs)
      have HS := Lib.hid (spotWQ (H.out.below HB.out) (j : Int))
      rw [hg] at HS
      obtain ⟨e10, e1⟩ := HH.out j hjs
      obtain ⟨p, hp⟩ : ∃ p, p = sv S j := ⟨_, rfl⟩
      rw [← hp] at HS e10 e1
      clear hg hp
      go_wp2_with fail
      refine HS.out.mono ?_
      rintro en w1 ⟨rfl, b1⟩
      unfold spotV
      have HB1 := Lib.hid (HB.out.trans (b1.mono hsz))
      have hs1 : w.heap.size ≤ w1.heap.size := HB1.out.size
      have HBa := Lib.hid (fun o : Obj => HB1.out.alloc hs1 o)
      clear b1
      go_wp2
      go_roundw
      case rel => exact ⟨j + 1, by go_num, by omega, by go_num, rfl, HBa.out _⟩
      case measure => simp [intOf]; omega
    · obtain rfl : j = T.length := by omega
      go_wp2
      go_ret2
      exact ⟨rfl, HB.out⟩
end
structure QWSt (w0 w : World) (B : Nat → Prop) (x : QWx) (P T : List Int) (s : Ar) (S : List Sp) (M : Nat) : Prop where
  is : QWIs B w x P T s S
  bel : Below w0.heap.size w0 w
  hl : ∀ i ∈ [x.a, x.g, x.q], w0.heap.size ≤ i
  op : s.ops ≤ M
theorem QWSt.below {w0 w w' : World} {B : Nat → Prop} {x : QWx} {P T : List Int} {s : Ar} {S : List Sp} {M : Nat} (h : QWSt w0 w B x P T s S M) (k : Below w.heap.size w w') : QWSt w0 w' B x P T s S M := ⟨h.is.below k, h.bel.trans (k.mono h.bel.size), h.hl, h.op⟩
theorem QWSt.next {w0 w w' : World} {B : Nat → Prop} {x : QWx} {P T : List Int} {s s' : Ar} {S S' : List Sp} {M M' : Nat} (h : QWSt w0 w B x P T s S M) (k : Turns [x.a, x.g, x.q] w w') (hI : QWIs B w' x P T s' S') (ho : s'.ops ≤ M') : QWSt w0 w' B x P T s' S' M' := ⟨hI, h.bel.trans (k.below h.hl h.bel.size), h.hl, ho⟩
set_option maxRecDepth 100000 in
theorem madeNoWQ (w : World) (vP vT : Value) (a0 a1 a2 : Int) (hs : SmNo w vP vT 8) :
    Calls Tryz.prog 26 #[.agg #[vP, vT], .agg #[.int .u8 a0, .int .u8 a1, .int .u8 a2]] w fun e w' => e = .returned (.tuple #[.pointer none, .pointer none, .bool false]) ∧ Below w.heap.size w w' := by
  have HB0 := Lib.hid (((Below.refl w.heap.size w).alloc (Nat.le_refl _) (.cells #[vP, vT] 24)).alloc (by simp) (.cells #[.int .u8 a0, .int .u8 a1, .int .u8 a2] 25))
  have H := Lib.hid (hs _ HB0.out)
  clear hs
  go_enter Tryz.func26, Tryz.ntmps26
  go_wp2_with fail
  refine H.out.mono ?_
  rintro en w1 ⟨rfl, b1⟩
  have HB1 := Lib.hid (HB0.out.trans (b1.mono HB0.out.size))
  clear b1
  go_wp2
  go_ret3
  exact ⟨rfl, HB1.out⟩
set_option maxRecDepth 100000 in
set_option maxHeartbeats 2000000 in
theorem madeYesWQ (w : World) (vP vT : Value) (P T : List Int) (hP : RdL w vP 1 encI P) (hT : RdL w vT 1 encI T) (a0 a1 a2 : Nat) (h0 : a0 < 256) (h1 : a1 < 256) (h2 : a2 < 256) (hs : smallB P T 8 = true) :
    Calls Tryz.prog 26 #[.agg #[vP, vT], .agg #[.int .u8 a0, .int .u8 a1, .int .u8 a2]] w fun e w' => ∃ (B : Nat → Prop) (x : QWx) (s : Ar), e = .returned (.tuple #[.pointer (some ⟨x.a, 0, none⟩), .pointer (some ⟨x.l, 0, none⟩), .bool true]) ∧ QWSt w w' B x P T s (List.replicate T.length Sp.zero) 10000 := by
  have hck : chkT P T = 0 ∧ (T.length : Int) ≤ 8 := of_decide_eq_true hs
  have hml := many_lt (chk_ok hck.1).1
  have HBL := Lib.hid (And.intro (fun g' (hg' : vP.ownBlock = some g') => rd_block hP (by omega) hg') (fun g' (hg' : vT.ownBlock = some g') => rd_block hT (by omega) hg'))
  have HS := smallH ((w.alloc (.cells #[vP, vT] 24)).alloc (.cells #[.int .u8 a0, .int .u8 a1, .int .u8 a2] 25)) vP vT P T ((hP.alloc _).alloc _) ((hT.alloc _).alloc _) 8
  rw [hs] at HS
  have H := Lib.hid HS
  have HB0 := Lib.hid (((Below.refl w.heap.size w).alloc (Nat.le_refl _) (.cells #[vP, vT] 24)).alloc (by simp) (.cells #[.int .u8 a0, .int .u8 a1, .int .u8 a2] 25))
  have HRD := Lib.hid (And.intro hP hT)
  have hbt := (Blk.new w 24 #[vP, vT]).alloc (.cells #[.int .u8 a0, .int .u8 a1, .int .u8 a2] 25)
  have hbn := Blk.new (w.alloc (.cells #[vP, vT] 24)) 25 #[.int .u8 a0, .int .u8 a1, .int .u8 a2]
  rw [show (w.alloc (.cells #[vP, vT] 24)).heap.size = w.heap.size + 1 by simp] at hbn
  obtain ⟨w0, hw0⟩ : ∃ W, W = (w.alloc (.cells #[vP, vT] 24)).alloc (.cells #[.int .u8 a0, .int .u8 a1, .int .u8 a2] 25) := ⟨_, rfl⟩
  rw [← hw0] at H HB0 hbt hbn
  have HX := Lib.hid (And.intro hbt hbn)
  have HCK := Lib.hid hck
  clear HS hs hP hT hck hbt hbn hml
  go_enter Tryz.func26, Tryz.ntmps26
  go_upto_region 1 with fail
  rw [← hw0]
  clear hw0
  have f0 : w0.cell? ⟨w.heap.size, 0, none⟩ = some vP := HX.out.1.cell 0
  have f1 : w0.cell? ⟨w.heap.size, 1, none⟩ = some vT := HX.out.1.cell 1
  go_wp2_with fail
  refine H.out.mono ?_
  rintro en w1 ⟨rfl, b1⟩
  have HX1 := Lib.hid (And.intro (HX.out.1.below b1 HX.out.1.lt) (HX.out.2.below b1 HX.out.2.lt))
  have HB1 := Lib.hid (HB0.out.trans (b1.mono HB0.out.size))
  clear b1 f0 f1
  go_wp2_with fail
  refine (newA_any _ 4096).mono ?_
  rintro en w2 ⟨a, g, rfl, hA, ha, hg, hb⟩
  have hX2 := And.intro (HX1.out.1.below hb HX1.out.1.lt) (HX1.out.2.below hb HX1.out.2.lt)
  have f0 : w2.cell? ⟨w.heap.size, 0, none⟩ = some vP := hX2.1.cell 0
  have f1 : w2.cell? ⟨w.heap.size, 1, none⟩ = some vT := hX2.1.cell 1
  have n0 : w2.cell? ⟨w.heap.size + 1, 0, none⟩ = some (.int .u8 a0) := hX2.2.cell 0
  have n1 : w2.cell? ⟨w.heap.size + 1, 1, none⟩ = some (.int .u8 a1) := hX2.2.cell 1
  have n2 : w2.cell? ⟨w.heap.size + 1, 2, none⟩ = some (.int .u8 a2) := hX2.2.cell 2
  have HA := Lib.hid (And.intro hA (And.intro ha (And.intro hg (HB1.out.trans (hb.mono HB1.out.size)))))
  have x1 : IntKind.i64.wrap (1 + (a0 : Int) % 5) = 1 + (a0 : Int) % 5 := IntWalk.i64_in _ (by omega)
  have x2 : IntKind.i64.wrap (1 + (a1 : Int) % 5) = 1 + (a1 : Int) % 5 := IntWalk.i64_in _ (by omega)
  have x3 : IntKind.i64.wrap (1 + (a2 : Int) / 4 % 4) = 1 + (a2 : Int) / 4 % 4 := IntWalk.i64_in _ (by omega)
  clear hA ha hg hb hX2
  have epar : 1 + (a2 : Int) / 4 % 4 = ((1 + a2 / 4 % 4 : Nat) : Int) := by omega
  have HN := Lib.hid (newWQ HA.out.1 rfl HA.out.1.ne vP vT P T (HRD.out.1.below HA.out.2.2.2 (Nat.le_refl _)) (HRD.out.2.below HA.out.2.2.2 (Nat.le_refl _)) (fun i hi => by have := HBL.out.1 i hi; have := HA.out.2.1; have := HB1.out.size; have := HA.out.2.2.2.size; omega) (fun i hi => by have := HBL.out.2 i hi; have := HA.out.2.1; have := HB1.out.size; have := HA.out.2.2.2.size; omega) HCK.out.1 (1 + (a0 : Int) % 5) (1 + (a1 : Int) % 5) (by omega) (by omega) (1 + a2 / 4 % 4) (by omega) ((a2 : Int) % 4) (by omega) rfl (by show 0 ≤ 1000; omega))
  rw [← epar] at HN
  clear epar
  go_wp2_with fail
  refine HN.out.mono ?_
  rintro en w3 ⟨B, x, s', hca, hcg, rfl, k3, hop, hq, t3⟩
  have HK := Lib.hid (And.intro k3 (And.intro hop (And.intro hq (And.intro t3 hcg))))
  clear k3 hop hq t3 hcg f0 f1 n0 n1 n2 x1 x2 x3 HN
  subst hca
  go_wp2
  go_ret3
  have s2 := HA.out.2.2.2.size
  have s6 := HA.out.2.1
  have s7 := HA.out.2.2.1
  have sb := HB1.out.size
  obtain ⟨k3, hop, hq, t3, hcg⟩ := HK.out
  refine ⟨B, x, s', rfl, k3, ?_, ?_, hop⟩
  · exact HA.out.2.2.2.trans (t3.below (by simp; omega) s2)
  · simp; omega
end Go.Proofs.YtbkckbphkfakkaaGreat
end
section
/- Running closed code: plain data that stands for values and memory, by names in the place of blocks; what it means for such data to be what a world holds. No program in sight. -/
namespace Go.Proofs.YtbkckbphkfakkaaGreat
open Go.RowKit

/-! ### A tree of numbers -/
inductive Tr (α : Type) where
  | nil
  | nd (x : Option α) (l r : Tr α)
namespace Tr
variable {α : Type}
def get : Tr α → Nat → Option α
  | nil, _ => none
  | nd x l r, k => bif Nat.beq k 0 then x else bif Nat.beq (k % 2) 1 then l.get (k / 2) else r.get (k / 2 - 1)
def single : Nat → Nat → α → Tr α
  | 0, _, v => nd (some v) nil nil
  | f + 1, k, v => bif Nat.beq k 0 then nd (some v) nil nil else bif Nat.beq (k % 2) 1 then nd none (single f (k / 2) v) nil else nd none nil (single f (k / 2 - 1) v)
def set : Tr α → Nat → α → Tr α
  | nil, k, v => single k k v
  | nd x l r, k, v => bif Nat.beq k 0 then nd (some v) l r else bif Nat.beq (k % 2) 1 then nd x (l.set (k / 2) v) r else nd x l (r.set (k / 2 - 1) v)
def del : Tr α → Nat → Tr α
  | nil, _ => nil
  | nd x l r, k => bif Nat.beq k 0 then nd none l r else bif Nat.beq (k % 2) 1 then nd x (l.del (k / 2)) r else nd x l (r.del (k / 2 - 1))
theorem beq0 (k : Nat) : Nat.beq k 0 = decide (k = 0) := by cases k <;> rfl
theorem beqd (a b : Nat) : Nat.beq a b = decide (a = b) := by
  rw [Bool.eq_iff_iff, Nat.beq_eq]; simp
theorem get_nil (k : Nat) : (nil : Tr α).get k = none := rfl
theorem get_single (v : α) : ∀ (f k : Nat), k ≤ f → ∀ j, (single f k v).get j = if j = k then some v else none
  | 0, k, h, j => by
    obtain rfl : k = 0 := by omega
    simp only [single, get, beqd]
    by_cases hj : j = 0 <;> simp [hj]
  | f + 1, k, h, j => by
    simp only [single, beqd]
    by_cases hk : k = 0
    · subst hk
      by_cases hj : j = 0 <;> simp [get, hj, beqd]
    · by_cases ho : k % 2 = 1
      · simp only [hk, ho, decide_false, decide_true, cond_false, cond_true, get, beqd]
        rw [get_single v f (k / 2) (by omega)]
        by_cases hj : j = 0
        · have : ¬ j = k := by omega
          simp [hj]; omega
        · by_cases hjo : j % 2 = 1
          · simp only [hj, hjo, decide_false, decide_true, cond_false, cond_true]
            by_cases e : j = k
            · subst e; simp
            · rw [if_neg (by omega), if_neg e]
          · simp only [hj, hjo, decide_false, cond_false]
            rw [if_neg (by omega)]
      · simp only [hk, ho, decide_false, cond_false, get, beqd]
        rw [get_single v f (k / 2 - 1) (by omega)]
        by_cases hj : j = 0
        · simp [hj]; omega
        · by_cases hjo : j % 2 = 1
          · simp only [hj, hjo, decide_false, decide_true, cond_false, cond_true]
            rw [if_neg (by omega)]
          · simp only [hj, hjo, decide_false, cond_false]
            by_cases e : j = k
            · subst e; simp
            · rw [if_neg (by omega), if_neg e]
theorem get_set (v : α) : ∀ (t : Tr α) (k j : Nat), (t.set k v).get j = if j = k then some v else t.get j
  | nil, k, j => by
    show (single k k v).get j = _
    rw [get_single v k k (Nat.le_refl _) j]; rfl
  | nd x l r, k, j => by
    simp only [set, beqd]
    by_cases hk : k = 0
    · subst hk
      by_cases hj : j = 0 <;> simp [get, hj, beqd]
    · by_cases ho : k % 2 = 1
      · simp only [hk, ho, decide_false, decide_true, cond_false, cond_true, get, beqd]
        by_cases hj : j = 0
        · simp [hj]; omega
        · by_cases hjo : j % 2 = 1
          · simp only [hj, hjo, decide_false, decide_true, cond_false, cond_true]
            rw [get_set v l]
            by_cases e : j = k
            · subst e; simp
            · rw [if_neg (by omega), if_neg e]
          · simp only [hj, hjo, decide_false, cond_false]
            rw [if_neg (by omega)]
      · simp only [hk, ho, decide_false, cond_false, get, beqd]
        by_cases hj : j = 0
        · simp [hj]; omega
        · by_cases hjo : j % 2 = 1
          · simp only [hj, hjo, decide_false, decide_true, cond_false, cond_true]
            rw [if_neg (by omega)]
          · simp only [hj, hjo, decide_false, cond_false]
            rw [get_set v r]
            by_cases e : j = k
            · subst e; simp
            · rw [if_neg (by omega), if_neg e]
theorem get_del : ∀ (t : Tr α) (k j : Nat), (t.del k).get j = if j = k then none else t.get j
  | nil, k, j => by simp [del, get]
  | nd x l r, k, j => by
    simp only [del, beqd]
    by_cases hk : k = 0
    · subst hk
      by_cases hj : j = 0 <;> simp [get, hj, beqd]
    · by_cases ho : k % 2 = 1
      · simp only [hk, ho, decide_false, decide_true, cond_false, cond_true, get, beqd]
        by_cases hj : j = 0
        · simp [hj]; omega
        · by_cases hjo : j % 2 = 1
          · simp only [hj, hjo, decide_false, decide_true, cond_false, cond_true]
            rw [get_del l]
            by_cases e : j = k
            · subst e; simp
            · rw [if_neg (by omega), if_neg e]
          · simp only [hj, hjo, decide_false, cond_false]
            rw [if_neg (by omega)]
      · simp only [hk, ho, decide_false, cond_false, get, beqd]
        by_cases hj : j = 0
        · simp [hj]; omega
        · by_cases hjo : j % 2 = 1
          · simp only [hj, hjo, decide_false, decide_true, cond_false, cond_true]
            rw [if_neg (by omega)]
          · simp only [hj, hjo, decide_false, cond_false]
            rw [get_del r]
            by_cases e : j = k
            · subst e; simp
            · rw [if_neg (by omega), if_neg e]
end Tr

/-! ### Values by names -/
/-- a slice's capacity: known, or what its block has room for (cells an element) -/
inductive Cp where
  | k (c : Nat)
  | u (es : Nat)
/-- what one cell holds -/
inductive C where
  | b (x : Bool)
  | i (k : IntKind) (n : Int)
  | s (x : ByteArray)
  | p (x : Option (Nat × Nat))
  | l (x : Option (Nat × Nat)) (n : Nat) (c : Cp)
  | f (fn : Nat) (first cap : List (Nat × Nat))
  | nf
  | ni
  /-- an interface's value: a cell, or a struct of one cell -/
  | d (t : TypeId) (agg : Bool) (x : C)
/-- a cell, or a struct's or an array's cells -/
inductive Wv where
  | c (x : C)
  | a (cs : List C)
/-- a value of a temporary -/
inductive V where
  | w (x : Wv)
  | t (xs : List Wv)
/-- names' blocks, and how many cells these have -/
abbrev Nm := Nat → Option (Nat × Nat)
def Nm.le (r s : Nm) : Prop := ∀ k x, r k = some x → s k = some x
theorem Nm.le_refl (r : Nm) : r.le r := fun _ _ h => h
theorem Nm.le_trans {r s t : Nm} (h : r.le s) (k : s.le t) : r.le t := fun _ _ e => k _ _ (h _ _ e)
def ptrOf (b o : Nat) : Value := .pointer (some ⟨b, o, none⟩)
inductive AR (r : Nm) : List (Nat × Nat) → List Value → Prop where
  | nil : AR r [] []
  | cons {k o b sz xs vs} (h : r k = some (b, sz)) (t : AR r xs vs) : AR r ((k, o) :: xs) (ptrOf b o :: vs)
inductive CR (r : Nm) : C → Value → Prop where
  | b (x) : CR r (.b x) (.bool x)
  | i (k n) : CR r (.i k n) (.int k n)
  | s (x) : CR r (.s x) (.string x)
  | p0 : CR r (.p none) (.pointer none)
  | p {k o b sz} (h : r k = some (b, sz)) : CR r (.p (some (k, o))) (ptrOf b o)
  | l0 (n c) : CR r (.l none n (.k c)) (.slice none n c)
  | l {k o b sz} (n c) (h : r k = some (b, sz)) : CR r (.l (some (k, o)) n (.k c)) (.slice (some ⟨b, o, none⟩) n c)
  | u {k o b sz} (n c es) (h : r k = some (b, sz)) (h1 : n ≤ c) (h2 : c ≤ maxLen) (h3 : o + c * es = sz) : CR r (.l (some (k, o)) n (.u es)) (.slice (some ⟨b, o, none⟩) n c)
  | f (fn) {a c va vc} (ha : AR r a va) (hc : AR r c vc) : CR r (.f fn a c) (.func (.func fn) va.toArray vc.toArray)
  | nf : CR r .nf .nilFunc
  | ni : CR r .ni .nilIface
  | d (t) {c v} (h : CR r c v) : CR r (.d t false c) (.iface t v)
  | da (t) {c v} (h : CR r c v) : CR r (.d t true c) (.iface t (.agg #[v]))
inductive CsR (r : Nm) : List C → List Value → Prop where
  | nil : CsR r [] []
  | cons {c v cs vs} (h : CR r c v) (t : CsR r cs vs) : CsR r (c :: cs) (v :: vs)
inductive WR (r : Nm) : Wv → Value → Prop where
  | c {x v} (h : CR r x v) : WR r (.c x) v
  | a {cs vs} (h : CsR r cs vs) : WR r (.a cs) (.agg vs.toArray)
inductive WsR (r : Nm) : List Wv → List Value → Prop where
  | nil : WsR r [] []
  | cons {c v cs vs} (h : WR r c v) (t : WsR r cs vs) : WsR r (c :: cs) (v :: vs)
inductive VR (r : Nm) : V → Value → Prop where
  | w {x v} (h : WR r x v) : VR r (.w x) v
  | t {xs vs} (h : WsR r xs vs) : VR r (.t xs) (.tuple vs.toArray)
section mono
variable {r s : Nm} (h : r.le s)
include h
theorem AR.mono {x v} (k : AR r x v) : AR s x v := by
  induction k with
  | nil => exact .nil
  | cons e _ ih => exact .cons (h _ _ e) ih
theorem CR.mono {x v} (k : CR r x v) : CR s x v := by
  induction k with
  | b => exact .b _
  | i => exact .i _ _
  | s => exact .s _
  | p0 => exact .p0
  | p e => exact .p (h _ _ e)
  | l0 => exact .l0 _ _
  | l n c e => exact .l n c (h _ _ e)
  | u n c es e h1 h2 h3 => exact .u n c es (h _ _ e) h1 h2 h3
  | f fn ha hc => exact .f fn (ha.mono h) (hc.mono h)
  | nf => exact .nf
  | ni => exact .ni
  | d t _ ih => exact .d t ih
  | da t _ ih => exact .da t ih
theorem CsR.mono {x v} (k : CsR r x v) : CsR s x v := by
  induction k with
  | nil => exact .nil
  | cons e _ ih => exact .cons (e.mono h) ih
theorem WR.mono {x v} (k : WR r x v) : WR s x v := by
  cases k with
  | c e => exact .c (e.mono h)
  | a e => exact .a (e.mono h)
theorem WsR.mono {x v} (k : WsR r x v) : WsR s x v := by
  induction k with
  | nil => exact .nil
  | cons e _ ih => exact .cons (e.mono h) ih
theorem VR.mono {x v} (k : VR r x v) : VR s x v := by
  cases k with
  | w e => exact .w (e.mono h)
  | t e => exact .t (e.mono h)
end mono

/-! ### Memory by names -/
structure Bk where
  e : TypeId
  n : Nat
  /-- what a cell holds that u does not name: this pattern, again and again -/
  d : List C
  u : Tr C
def Bk.cell (b : Bk) (j : Nat) : C := match b.u.get j with
  | some c => c
  | none => b.d.getD (j % b.d.length) .ni
abbrev Hp := Tr Bk
/-- what a block holds, as far as it is known -/
structure BR (r : Nm) (w : World) (B : Bk) (b sz : Nat) : Prop where
  ex : ∃ cs, w.heap[b]? = some (.cells cs B.e (0, 0)) ∧ cs.size = sz ∧ B.n ≤ sz ∧ ∀ j, j < B.n → ∃ v, cs[j]? = some v ∧ CR r (B.cell j) v
/-- what a memory by names is in a world -/
structure RelH (r : Nm) (H : Hp) (w : World) : Prop where
  at_ : ∀ k B, H.get k = some B → ∃ b sz, r k = some (b, sz) ∧ BR r w B b sz
  inj : ∀ k j B D b s t, H.get k = some B → H.get j = some D → r k = some (b, s) → r j = some (b, t) → k = j
/-- what else a call leaves as it was -/
structure Fr (r : Nm) (H : Hp) (w w' : World) : Prop where
  os : w'.os = w.os
  tape : w'.tape = w.tape
  output : w'.output = w.output
  size : w.heap.size ≤ w'.heap.size
  block : ∀ b, b < w.heap.size → (∀ k B sz, H.get k = some B → r k ≠ some (b, sz)) → w'.heap[b]? = w.heap[b]?
theorem BR.mono {r s : Nm} {w : World} {B : Bk} {b sz : Nat} (h : r.le s) (k : BR r w B b sz) : BR s w B b sz := by
  obtain ⟨cs, h1, h2, h3, h4⟩ := k.ex
  exact ⟨cs, h1, h2, h3, fun j hj => by obtain ⟨v, a, c⟩ := h4 j hj; exact ⟨v, a, c.mono h⟩⟩
theorem BR.lt {r : Nm} {w : World} {B : Bk} {b sz : Nat} (k : BR r w B b sz) : b < w.heap.size := by
  obtain ⟨cs, h1, _⟩ := k.ex
  exact (Array.getElem?_eq_some_iff.1 h1).1
theorem BR.keep {r : Nm} {w w' : World} {B : Bk} {b sz : Nat} (k : BR r w B b sz) (h : w'.heap[b]? = w.heap[b]?) : BR r w' B b sz := by
  obtain ⟨cs, h1, h2⟩ := k.ex
  exact ⟨cs, h.trans h1, h2⟩
theorem Fr.refl (r : Nm) (H : Hp) (w : World) : Fr r H w w := ⟨rfl, rfl, rfl, Nat.le_refl _, fun _ _ _ => rfl⟩
theorem Fr.drew {r : Nm} {H : Hp} {w w' : World} (h : Fr r H w w') : Fr r H w w'.drew := ⟨h.os, h.tape, h.output, h.size, h.block⟩
end Go.Proofs.YtbkckbphkfakkaaGreat
end
section
/- Running closed code: operations that touch no memory. -/
namespace Go.Proofs.YtbkckbphkfakkaaGreat
open Go.RowKit

/-! ### Constants -/
def cOf : Value → Option C
  | .bool b => some (.b b)
  | .int k n => some (.i k n)
  | .string s => some (.s s)
  | .pointer none => some (.p none)
  | .slice none n c => some (.l none n (.k c))
  | .nilFunc => some .nf
  | .nilIface => some .ni
  | _ => none
theorem cOf_ok {r : Nm} {v : Value} {c : C} (h : cOf v = some c) : CR r c v := by
  unfold cOf at h
  split at h <;> (try (injection h with h; subst h)) <;> first | exact .b _ | exact .i _ _ | exact .s _ | exact .p0 | exact .l0 _ _ | exact .nf | exact .ni | cases h
def csOf : List Value → Option (List C)
  | [] => some []
  | v :: vs => match cOf v, csOf vs with
    | some c, some cs => some (c :: cs)
    | _, _ => none
theorem csOf_ok {r : Nm} : ∀ {vs : List Value} {cs : List C}, csOf vs = some cs → CsR r cs vs
  | [], cs, h => by injection h with h; subst h; exact .nil
  | v :: vs, cs, h => by
    unfold csOf at h
    split at h
    · rename_i c cs' h1 h2
      injection h with h
      subst h
      exact .cons (cOf_ok h1) (csOf_ok h2)
    · cases h
def wOf : Value → Option Wv
  | .agg cs => (csOf cs.toList).map .a
  | v => (cOf v).map .c
theorem wOf_ok {r : Nm} {v : Value} {x : Wv} (h : wOf v = some x) : WR r x v := by
  unfold wOf at h
  split at h
  · rename_i cs
    cases hc : csOf cs.toList with
    | none => rw [hc] at h; cases h
    | some l =>
      rw [hc] at h
      injection h with h
      subst h
      have := WR.a (csOf_ok (r := r) hc)
      simpa using this
  · cases hc : cOf v with
    | none => rw [hc] at h; cases h
    | some l =>
      rw [hc] at h
      injection h with h
      subst h
      exact .c (cOf_ok hc)
def vOf : Value → Option V
  | .tuple vs => if vs.size = 0 then some (.t []) else none
  | v => (wOf v).map .w
theorem vOf_ok {r : Nm} {v : Value} {x : V} (h : vOf v = some x) : VR r x v := by
  unfold vOf at h
  split at h
  · rename_i vs
    split at h
    · rename_i hz
      injection h with h
      subst h
      have : vs = #[] := Array.eq_empty_of_size_eq_zero hz
      subst this
      exact .t .nil
    · cases h
  · cases hc : wOf v with
    | none => rw [hc] at h; cases h
    | some l =>
      rw [hc] at h
      injection h with h
      subst h
      exact .w (wOf_ok hc)
/-! ### Operands -/
def evO (tm : Tr V) : Operand → Option V
  | .tmp t => tm.get t
  | .const v => vOf v
  | .func f => some (.w (.c (.f f [] [])))
  | .global _ => none
/-- a frame -/
structure RelA (r : Nm) (tm : Tr V) (n : Nat) (a : Act) : Prop where
  size : a.tmps.size = n
  defers : a.defers = []
  val : ∀ i v, tm.get i = some v → ∃ u, a.tmps[i]? = some u ∧ VR r v u
theorem evO_ok {r : Nm} {tm : Tr V} {n : Nat} {a : Act} (h : RelA r tm n a) {x : Operand} {v : V} (e : evO tm x = some v) : VR r v (a.eval x) := by
  cases x with
  | tmp t =>
    obtain ⟨u, h1, h2⟩ := h.val t v e
    show VR r v (a.tmps.getD t undef)
    rw [Array.getD_eq_getD_getElem?, h1]
    exact h2
  | const u => exact vOf_ok e
  | func f =>
    injection e with e
    subst e
    exact .w (.c (.f f .nil .nil))
  | global g => cases e
theorem RelA.mono {r s : Nm} {tm : Tr V} {n : Nat} {a : Act} (h : RelA r tm n a) (k : r.le s) : RelA s tm n a :=
  ⟨h.size, h.defers, fun i v e => by obtain ⟨u, h1, h2⟩ := h.val i v e; exact ⟨u, h1, h2.mono k⟩⟩
theorem RelA.put {r : Nm} {tm : Tr V} {n : Nat} {a : Act} (h : RelA r tm n a) {d : Nat} (hd : d < n) {v : V} {u : Value} (hv : VR r v u) : RelA r (tm.set d v) n (a.put (some d) u) := by
  refine ⟨by simp [Act.put, h.size], h.defers, fun i x hx => ?_⟩
  rw [Tr.get_set] at hx
  show ∃ y, (a.tmps.setIfInBounds d u)[i]? = some y ∧ VR r x y
  by_cases e : i = d
  · subst e
    rw [if_pos rfl] at hx
    injection hx with hx
    subst hx
    exact ⟨u, by simp [h.size, hd], hv⟩
  · rw [if_neg e] at hx
    obtain ⟨y, h1, h2⟩ := h.val i x hx
    exact ⟨y, by rw [Array.getElem?_setIfInBounds_ne (fun e' => e e'.symm)]; exact h1, h2⟩
theorem RelA.lose {r : Nm} {tm : Tr V} {n : Nat} {a : Act} (h : RelA r tm n a) (d : Nat) (u : Value) : RelA r (tm.del d) n (a.put (some d) u) := by
  refine ⟨by simp [Act.put, h.size], h.defers, fun i x hx => ?_⟩
  rw [Tr.get_del] at hx
  show ∃ y, (a.tmps.setIfInBounds d u)[i]? = some y ∧ VR r x y
  by_cases e : i = d
  · rw [if_pos e] at hx; cases hx
  · rw [if_neg e] at hx
    obtain ⟨y, h1, h2⟩ := h.val i x hx
    exact ⟨y, by rw [Array.getElem?_setIfInBounds_ne (fun e' => e e'.symm)]; exact h1, h2⟩
theorem RelA.same {r : Nm} {tm : Tr V} {n : Nat} {a : Act} (h : RelA r tm n a) (u : Value) : RelA r tm n (a.put none u) := h
/-! ### Types -/
def szOf (P : Program) (t : TypeId) : Option Nat := (P.info? t).map (·.size)
def aggB (P : Program) (t : TypeId) : Option Bool := match P.underlying t with
  | some (.struct _) => some true
  | some (.array _ _) => some true
  | some _ => some false
  | none => none
theorem run_szOf {P : Program} {t : TypeId} {n : Nat} (h : szOf P t = some n) (w : World) : (sizeOf t).run P w = .ok n w := by
  unfold szOf at h
  cases hi : P.info? t with
  | none => rw [hi] at h; cases h
  | some i =>
    rw [hi] at h
    injection h with h
    subst h
    simp [sizeOf, typeInfo, hi, go_sem]
theorem run_aggB {P : Program} {t : TypeId} {b : Bool} (h : aggB P t = some b) (w : World) : (isAgg t).run P w = .ok b w := by
  unfold aggB at h
  cases hu : P.underlying t with
  | none => rw [hu] at h; cases h
  | some d =>
    rw [hu] at h
    have := run_underlying hu w
    cases d <;> simp at h <;> subst h <;> simp [isAgg, go_sem, this]
theorem CsR.length {r : Nm} {cs : List C} {vs : List Value} (h : CsR r cs vs) : vs.length = cs.length := by
  induction h with
  | nil => rfl
  | cons _ _ ih => simp [ih]
theorem CsR.get {r : Nm} {cs : List C} {vs : List Value} (h : CsR r cs vs) : ∀ (i : Nat) (c : C), cs[i]? = some c → ∃ v, vs[i]? = some v ∧ CR r c v := by
  induction h with
  | nil => intro i c h; simp at h
  | cons h t ih =>
    intro i c hc
    cases i with
    | zero => simp at hc; subst hc; exact ⟨_, rfl, h⟩
    | succ i => simpa using ih i c (by simpa using hc)
theorem CsR.drop {r : Nm} {cs : List C} {vs : List Value} (h : CsR r cs vs) : ∀ n, CsR r (cs.drop n) (vs.drop n) := by
  induction h with
  | nil => intro n; simp; exact .nil
  | cons h t ih =>
    intro n
    cases n with
    | zero => exact .cons h t
    | succ n => simpa using ih n
theorem CsR.take {r : Nm} {cs : List C} {vs : List Value} (h : CsR r cs vs) : ∀ n, CsR r (cs.take n) (vs.take n) := by
  induction h with
  | nil => intro n; simp; exact .nil
  | cons h t ih =>
    intro n
    cases n with
    | zero => exact .nil
    | succ n => simpa using .cons h (ih n)
theorem CsR.append {r : Nm} {cs ds : List C} {vs us : List Value} (h : CsR r cs vs) (k : CsR r ds us) : CsR r (cs ++ ds) (vs ++ us) := by
  induction h with
  | nil => exact k
  | cons h t ih => exact .cons h ih
/-- a part of a struct's or an array's cells -/
def partC (P : Program) (t : TypeId) (cs : List C) (off : Nat) : Option Wv := match aggB P t, szOf P t with
  | some true, some n => some (.a ((cs.drop off).take n))
  | some false, some _ => (cs[off]?).map .c
  | _, _ => none
theorem partC_ok {P : Program} {r : Nm} {t : TypeId} {cs : List C} {vs : List Value} {off : Nat} {x : Wv} (h : CsR r cs vs) (e : partC P t cs off = some x) :
    ∃ u, WR r x u ∧ ∀ w, (part t vs.toArray off).run P w = .ok u w := by
  unfold partC at e
  split at e
  · rename_i n h1 h2
    injection e with e
    subst e
    refine ⟨_, .a ((h.drop off).take n), fun w => ?_⟩
    have e1 := run_aggB h1 w
    have e2 := run_szOf h2 w
    simp [part, go_sem, e1, e2, List.extract_eq_take_drop]
  · rename_i n h1 h2
    cases hc : cs[off]? with
    | none => rw [hc] at e; cases e
    | some c =>
      rw [hc] at e
      injection e with e
      subst e
      obtain ⟨v, hv, hr⟩ := h.get off c hc
      refine ⟨v, .c hr, fun w => ?_⟩
      have e1 := run_aggB h1 w
      simp [part, go_sem, e1, hv]
  · cases e
end Go.Proofs.YtbkckbphkfakkaaGreat
end
