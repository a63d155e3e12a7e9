/- Layer 12: the walk of TallyRises (written by wip/gen_tal13.py). -/
import Derived.Test.YtfbiejkdeadheaaTal12
namespace Go.Proofs.Ytfbiejkdeadheaa
open Go.RowKit Go.Maps

theorem isE_ev {l : List Ev} {a kind t : Int} (h : isE l a.toNat kind t = true) : ∃ e, l[a.toNat]? = some e ∧ e.kind = kind ∧ e.thread = t := by
  cases he : l[a.toNat]? with
  | none => unfold isE at h; rw [he] at h; simp at h
  | some e =>
    rw [isE_eq he] at h
    simp at h
    exact ⟨e, rfl, h.1, h.2⟩
theorem pair_get {α : Type} {R : α → α → Prop} {l : List α} (h : l.Pairwise R) {i j : Nat} {a b : α} (hij : i < j) (ha : l[i]? = some a) (hb : l[j]? = some b) : R a b := by
  obtain ⟨h1, rfl⟩ := List.getElem?_eq_some_iff.1 ha
  obtain ⟨h2, rfl⟩ := List.getElem?_eq_some_iff.1 hb
  exact List.pairwise_iff_getElem.1 h i j h1 h2 hij
theorem longR (w : World) (A : Option Addr) (m c : Nat) (h1 : 60 < m) (h2 : m ≤ 9223372036854775807) :
    Calls Try.prog 12 #[.slice A m c] w fun e w' => e = .returned (.bool true) ∧ Below w.heap.size w w' := by
  go_enter Try.func12, Try.ntmps12
  go_wp2_with fail
  refine (awake12 _).mono ?_
  rintro en w1 ⟨rfl, hb⟩
  go_wp2
  go_ret
  exact ⟨rfl, hb⟩

set_option maxRecDepth 100000 in
set_option maxHeartbeats 8000000 in
theorem rises12 (w : World) (v : Value) (l : List Ev) (h : RdL w v 4 encE l) (hwf : ∀ e ∈ l, wfE e) (hl60 : l.length ≤ 60) :
    Calls Try.prog 12 #[v] w fun e w' => e = .returned (.bool true) ∧ Below w.heap.size w w' := by
  obtain ⟨A, cap, rfl, l1, l2, hr⟩ := h
  have HR : Hid (RdL w (.slice A l.length cap) 4 encE l) := Lib.hid ⟨A, cap, rfl, l1, l2, hr⟩
  have HW := Lib.hid hwf
  have htl := tallyL_len l
  have hri := tally_rise l
  obtain ⟨s, hs⟩ : ∃ s, s = tallyL l := ⟨_, rfl⟩
  rw [← hs] at htl hri
  have HRI := Lib.hid hri
  have HL := Lib.hid hs
  have heq := eqArr4
  clear hr hwf hs hri
  go_enter Try.func12, Try.ntmps12
  go_wp2_with fail
  refine (tallyOf_any _ _ l HR.out HW.out (by omega)).mono ?_
  rintro en w1 ⟨v1, rfl, hown, b1⟩
  rw [← HL.out] at hown
  obtain ⟨A1, c1, rfl⟩ := own_form hown
  have HS : Hid (RdL w1 (.slice A1 s.length c1) 7 encS s) := Lib.hid (RdL.of_own encS_len rfl (by omega) hown)
  have HB := Lib.hid b1
  clear hown b1
  have k1 : Blk (w1.alloc (.cells #[.int .i64 0, .int .i64 0, .int .i64 0, .int .i64 0] 101)) w1.heap.size 101 #[.int .i64 0, .int .i64 0, .int .i64 0, .int .i64 0] := Blk.new _ _ _
  go_wp2
  go_loopw [5] (fun i wr => ∃ k : Nat, i = .int .i64 k ∧ k ≤ s.length ∧ Blk wr w1.heap.size 101 #[.int .i64 (cntL Stay.ask (s.take k)), .int .i64 (cntL Stay.enter (s.take k)), .int .i64 (cntL Stay.exit (s.take k)), .int .i64 (cntL Stay.rest (s.take k))] ∧ Below w1.heap.size w1 wr) (fun i _ => s.length - (intOf i).toNat)
  case atStart => exact ⟨0, rfl, by omega, k1, (Below.refl _ _).alloc (Nat.le_refl _) _⟩
  case round =>
    clear k1
    obtain ⟨k, rfl, hk, hbk, hbel⟩ := hrel
    obtain ⟨wo, rfl⟩ : ∃ wo : World, wo = wr := ⟨_, rfl⟩
    have hle := hbel.size
    by_cases hlt : k < s.length
    · obtain ⟨A', c', e', p1, p2, p3⟩ := HS.out
      obtain ⟨bl, off, q1, q2, hc⟩ := p3 (by omega)
      injection e' with e' _ e''
      subst e' e'' q1
      have HCS := Lib.hid (And.intro q2 hc)
      obtain ⟨x, hx⟩ := getElem?_lt hlt
      have a0 := (hbel.cell (p := ⟨bl, off + k * 7 + 0, none⟩) q2).trans (hc k x hx 0 _ rfl)
      have a1 := (hbel.cell (p := ⟨bl, off + k * 7 + 1, none⟩) q2).trans (hc k x hx 1 _ rfl)
      have a2 := (hbel.cell (p := ⟨bl, off + k * 7 + 2, none⟩) q2).trans (hc k x hx 2 _ rfl)
      have a3 := (hbel.cell (p := ⟨bl, off + k * 7 + 3, none⟩) q2).trans (hc k x hx 3 _ rfl)
      have a4 := (hbel.cell (p := ⟨bl, off + k * 7 + 4, none⟩) q2).trans (hc k x hx 4 _ rfl)
      have a5 := (hbel.cell (p := ⟨bl, off + k * 7 + 5, none⟩) q2).trans (hc k x hx 5 _ rfl)
      have a6 := (hbel.cell (p := ⟨bl, off + k * 7 + 6, none⟩) q2).trans (hc k x hx 6 _ rfl)
      simp only [Nat.add_zero] at a0
      have rx := HRI.out.1 x (List.mem_of_getElem? hx)
      have HSS := Lib.hid (And.intro (cntL_succ Stay.ask s k x hx) (And.intro (cntL_succ Stay.enter s k x hx) (And.intro (cntL_succ Stay.exit s k x hx) (cntL_succ Stay.rest s k x hx))))
      have z0 := cntL_le Stay.ask s k
      have z1 := cntL_le Stay.enter s k
      have z2 := cntL_le Stay.exit s k
      have z3 := cntL_le Stay.rest s k
      obtain ⟨m0, hm0⟩ : ∃ m0, m0 = cntL Stay.ask (s.take k) := ⟨_, rfl⟩
      obtain ⟨m1, hm1⟩ : ∃ m1, m1 = cntL Stay.enter (s.take k) := ⟨_, rfl⟩
      obtain ⟨m2, hm2⟩ : ∃ m2, m2 = cntL Stay.exit (s.take k) := ⟨_, rfl⟩
      obtain ⟨m3, hm3⟩ : ∃ m3, m3 = cntL Stay.rest (s.take k) := ⟨_, rfl⟩
      rw [← hm0] at z0 hbk HSS
      rw [← hm1] at z1 hbk HSS
      rw [← hm2] at z2 hbk HSS
      rw [← hm3] at z3 hbk HSS
      have hgl := hbk.lt
      have HG := Lib.hid (And.intro hbk (And.intro hbel hx))
      have RX := Lib.hid rx
      clear hc hx p3 hm0 hm1 hm2 hm3 hbk hbel rx
      go_wp2
      have kb : Blk (wo.alloc (.cells #[.int .i64 x.thread, .bool x.read, .int .i64 x.ask, .int .i64 x.enter, .int .i64 x.exit, .int .i64 x.rest, .int .i64 x.count] 103)) wo.heap.size 103 #[.int .i64 x.thread, .bool x.read, .int .i64 x.ask, .int .i64 x.enter, .int .i64 x.exit, .int .i64 x.rest, .int .i64 x.count] := Blk.new _ _ _
      have kB := HG.out.1.alloc (.cells #[.int .i64 x.thread, .bool x.read, .int .i64 x.ask, .int .i64 x.enter, .int .i64 x.exit, .int .i64 x.rest, .int .i64 x.count] 103)
      have bV := HG.out.2.1.alloc hle (.cells #[.int .i64 x.thread, .bool x.read, .int .i64 x.ask, .int .i64 x.enter, .int .i64 x.exit, .int .i64 x.rest, .int .i64 x.count] 103)
      generalize (wo.alloc (.cells #[.int .i64 x.thread, .bool x.read, .int .i64 x.ask, .int .i64 x.enter, .int .i64 x.exit, .int .i64 x.rest, .int .i64 x.count] 103)) = V at kb kB bV ⊢
      have hne : wo.heap.size ≠ w1.heap.size := by omega
      go_loopw [7, 36] (fun la i wx => ∃ q : Nat, i = .int .i64 q ∧ q ≤ 4 ∧ la = .int .i64 (if q = 0 then -1 else if q = 1 then x.ask else if q = 2 then x.enter else if q = 3 then x.exit else x.rest) ∧ Blk wx w1.heap.size 101 #[.int .i64 (upI m0 x.ask (decide (0 < q))), .int .i64 (upI m1 x.enter (decide (1 < q))), .int .i64 (upI m2 x.exit (decide (2 < q))), .int .i64 (upI m3 x.rest (decide (3 < q)))] ∧ Blk wx wo.heap.size 103 #[.int .i64 x.thread, .bool x.read, .int .i64 x.ask, .int .i64 x.enter, .int .i64 x.exit, .int .i64 x.rest, .int .i64 x.count] ∧ Below w1.heap.size w1 wx) (fun _ i _ => 4 - (intOf i).toNat)
      case atStart => exact ⟨0, rfl, by omega, rfl, by simp only [show decide (0 < 0) = false from rfl, show decide (1 < 0) = false from rfl, show decide (2 < 0) = false from rfl, show decide (3 < 0) = false from rfl, upI_no]; exact kB, kb, bV⟩
      case round =>
        obtain ⟨q, rfl, hq, hla, hb4, hbx, hbel⟩ := hrel
        have c0 := hbx.cell 0
        have hbxl := hbx.lt
        have hb4l := hb4.lt
        obtain ⟨A', c', e', p1, p2, p3⟩ := (HR.out.below HB.out (Nat.le_refl _)).below hbel (Nat.le_refl _)
        rcases (show q = 0 ∨ q = 1 ∨ q = 2 ∨ q = 3 ∨ q = 4 from by omega) with rfl | rfl | rfl | rfl | rfl
        · have hb1 : Blk wr w1.heap.size 101 #[.int .i64 m0, .int .i64 m1, .int .i64 m2, .int .i64 m3] := by simpa [upI_no] using hb4
          simp at hla
          subst hla
          have u0 := upI_le m0 x.ask true
          have ix : ∀ w, (Instr.index 101 (.agg #[.int .i64 x.ask, .int .i64 x.enter, .int .i64 x.exit, .int .i64 x.rest]) (.int .i64 0)).run Try.prog w = .ok (.int .i64 x.ask) w := fun _ => by kernel_rfl
          have iy : ∀ w, (Instr.index 101 (.agg #[.int .i64 x.ask, .int .i64 x.enter, .int .i64 x.exit, .int .i64 x.rest]) (.int .i64 ((0 : Nat) : Int))).run Try.prog w = .ok (.int .i64 x.ask) w := fun _ => by kernel_rfl
          have cc : wr.cell? ⟨w1.heap.size, 0, none⟩ = some (.int .i64 m0) := hb1.cell 0
          have ff := hb1.free 0
          have hup := RX.out.a1
          have hlo := (show -1 ≤ x.ask from by have := RX.out.a0; omega)
          by_cases hf : 0 ≤ x.ask
          · have HF : Hid (∀ W, Blk W w1.heap.size 101 #[.int .i64 (m0 + 1), .int .i64 m1, .int .i64 m2, .int .i64 m3] → Blk W w1.heap.size 101 #[.int .i64 (upI m0 x.ask (decide (0 < 1))), .int .i64 (upI m1 x.enter (decide (1 < 1))), .int .i64 (upI m2 x.exit (decide (2 < 1))), .int .i64 (upI m3 x.rest (decide (3 < 1)))]) := Lib.hid fun W hW => by
              have e := upI_pos m0 x.ask hf
              simpa [upI_no, e] using hW
            have hgt : -1 < x.ask := by omega
            have hl0 : (0 : Int) ≤ 0 := by omega
            obtain ⟨e, he, hek, het⟩ := isE_ev RX.out.a2
            obtain ⟨ble, offe, g1, g2, hce⟩ := p3 (by omega)
            have d0 := hce _ e he 0 _ rfl
            have d1 := hce _ e he 1 _ rfl
            simp only [Nat.add_zero] at d0
            rw [hek] at d0
            rw [het] at d1
            injection e' with e' _ e''
            subst e' e'' g1
            have t1 : ¬ x.ask < -1 := by omega
            have t2 : ¬ (l.length : Int) ≤ x.ask := by omega
            have t3 : ¬ x.ask ≤ (-1) := by omega
            have u1 : decide (x.ask < -1) = false := decide_eq_false t1
            have u2 : decide ((l.length : Int) ≤ x.ask) = false := decide_eq_false t2
            have u3 : decide (x.ask ≤ (-1)) = false := decide_eq_false t3
            have u4 : decide (0 ≤ x.ask) = true := decide_eq_true hf
            have hlx : x.ask < l.length := by omega
            have t4 : (x.thread != x.thread) = false := by simp
            clear hl0
            have HH := Lib.hid (And.intro hb1 (And.intro hbx hbel))
            clear hb4 hb1 hbx hbel hce he hek het p3
            go_wp2
            go_quiet (fail)
            go_wp2
            go_roundw
            case rel => exact ⟨1, rfl, by omega, rfl, HF.out _ ((HH.out.1.drewN nq).set_ 0 _), (HH.out.2.1.drewN nq).far hne _, (below_drewN HH.out.2.2 nq).setCell (Nat.le_refl _) _⟩
            case measure => first | (simp [intOf]; done) | (simp [intOf]; omega)
          · have HF : Hid (∀ W, Blk W w1.heap.size 101 #[.int .i64 m0, .int .i64 m1, .int .i64 m2, .int .i64 m3] → Blk W w1.heap.size 101 #[.int .i64 (upI m0 x.ask (decide (0 < 1))), .int .i64 (upI m1 x.enter (decide (1 < 1))), .int .i64 (upI m2 x.exit (decide (2 < 1))), .int .i64 (upI m3 x.rest (decide (3 < 1)))]) := Lib.hid fun W hW => by
              have e := upI_neg m0 x.ask hf
              simpa [upI_no, e] using hW
            have t1 : ¬ x.ask < -1 := by omega
            have t2 : ¬ (l.length : Int) ≤ x.ask := by omega
            have t6 : decide (0 ≤ x.ask) = false := decide_eq_false hf
            have u1 : decide (x.ask < -1) = false := decide_eq_false t1
            have u2 : decide ((l.length : Int) ≤ x.ask) = false := decide_eq_false t2
            injection e' with e' _ e''
            subst e' e''
            have HH := Lib.hid (And.intro hb1 (And.intro hbx hbel))
            clear hb4 hb1 hbx hbel p3
            go_wp2
            go_quiet (fail)
            go_wp2
            go_roundw
            case rel => exact ⟨1, rfl, by omega, rfl, HF.out _ (HH.out.1.drewN nq), HH.out.2.1.drewN nq, below_drewN HH.out.2.2 nq⟩
            case measure => first | (simp [intOf]; done) | (simp [intOf]; omega)
        · have hb1 : Blk wr w1.heap.size 101 #[.int .i64 (upI m0 x.ask true), .int .i64 m1, .int .i64 m2, .int .i64 m3] := by simpa [upI_no] using hb4
          simp at hla
          subst hla
          have u1 := upI_le m1 x.enter true
          have ix : ∀ w, (Instr.index 101 (.agg #[.int .i64 x.ask, .int .i64 x.enter, .int .i64 x.exit, .int .i64 x.rest]) (.int .i64 1)).run Try.prog w = .ok (.int .i64 x.enter) w := fun _ => by kernel_rfl
          have iy : ∀ w, (Instr.index 101 (.agg #[.int .i64 x.ask, .int .i64 x.enter, .int .i64 x.exit, .int .i64 x.rest]) (.int .i64 ((1 : Nat) : Int))).run Try.prog w = .ok (.int .i64 x.enter) w := fun _ => by kernel_rfl
          have cc : wr.cell? ⟨w1.heap.size, 1, none⟩ = some (.int .i64 m1) := hb1.cell 1
          have ff := hb1.free 1
          have hup := RX.out.e1
          have hlo := RX.out.e0
          by_cases hf : 0 ≤ x.enter
          · have HF : Hid (∀ W, Blk W w1.heap.size 101 #[.int .i64 (upI m0 x.ask true), .int .i64 (m1 + 1), .int .i64 m2, .int .i64 m3] → Blk W w1.heap.size 101 #[.int .i64 (upI m0 x.ask (decide (0 < 2))), .int .i64 (upI m1 x.enter (decide (1 < 2))), .int .i64 (upI m2 x.exit (decide (2 < 2))), .int .i64 (upI m3 x.rest (decide (3 < 2)))]) := Lib.hid fun W hW => by
              have e := upI_pos m1 x.enter hf
              simpa [upI_no, e] using hW
            have hgt := (RX.out.e2 hf).1
            have hl0 := RX.out.a0
            obtain ⟨e, he, hek, het⟩ := isE_ev (RX.out.e2 hf).2
            obtain ⟨ble, offe, g1, g2, hce⟩ := p3 (by omega)
            have d0 := hce _ e he 0 _ rfl
            have d1 := hce _ e he 1 _ rfl
            simp only [Nat.add_zero] at d0
            rw [hek] at d0
            rw [het] at d1
            injection e' with e' _ e''
            subst e' e'' g1
            have t1 : ¬ x.enter < -1 := by omega
            have t2 : ¬ (l.length : Int) ≤ x.enter := by omega
            have t3 : ¬ x.enter ≤ x.ask := by omega
            have u1 : decide (x.enter < -1) = false := decide_eq_false t1
            have u2 : decide ((l.length : Int) ≤ x.enter) = false := decide_eq_false t2
            have u3 : decide (x.enter ≤ x.ask) = false := decide_eq_false t3
            have u4 : decide (0 ≤ x.enter) = true := decide_eq_true hf
            have hlx : x.enter < l.length := by omega
            have t4 : (x.thread != x.thread) = false := by simp
            have t5 : ¬ x.ask < 0 := by omega
            have u5 : decide (x.ask < 0) = false := decide_eq_false t5
            have HH := Lib.hid (And.intro hb1 (And.intro hbx hbel))
            clear hb4 hb1 hbx hbel hce he hek het p3
            go_wp2
            go_quiet (fail)
            go_wp2
            go_roundw
            case rel => exact ⟨2, rfl, by omega, rfl, HF.out _ ((HH.out.1.drewN nq).set_ 1 _), (HH.out.2.1.drewN nq).far hne _, (below_drewN HH.out.2.2 nq).setCell (Nat.le_refl _) _⟩
            case measure => first | (simp [intOf]; done) | (simp [intOf]; omega)
          · have HF : Hid (∀ W, Blk W w1.heap.size 101 #[.int .i64 (upI m0 x.ask true), .int .i64 m1, .int .i64 m2, .int .i64 m3] → Blk W w1.heap.size 101 #[.int .i64 (upI m0 x.ask (decide (0 < 2))), .int .i64 (upI m1 x.enter (decide (1 < 2))), .int .i64 (upI m2 x.exit (decide (2 < 2))), .int .i64 (upI m3 x.rest (decide (3 < 2)))]) := Lib.hid fun W hW => by
              have e := upI_neg m1 x.enter hf
              simpa [upI_no, e] using hW
            have t1 : ¬ x.enter < -1 := by omega
            have t2 : ¬ (l.length : Int) ≤ x.enter := by omega
            have t6 : decide (0 ≤ x.enter) = false := decide_eq_false hf
            have u1 : decide (x.enter < -1) = false := decide_eq_false t1
            have u2 : decide ((l.length : Int) ≤ x.enter) = false := decide_eq_false t2
            injection e' with e' _ e''
            subst e' e''
            have HH := Lib.hid (And.intro hb1 (And.intro hbx hbel))
            clear hb4 hb1 hbx hbel p3
            go_wp2
            go_quiet (fail)
            go_wp2
            go_roundw
            case rel => exact ⟨2, rfl, by omega, rfl, HF.out _ (HH.out.1.drewN nq), HH.out.2.1.drewN nq, below_drewN HH.out.2.2 nq⟩
            case measure => first | (simp [intOf]; done) | (simp [intOf]; omega)
        · have hb1 : Blk wr w1.heap.size 101 #[.int .i64 (upI m0 x.ask true), .int .i64 (upI m1 x.enter true), .int .i64 m2, .int .i64 m3] := by simpa [upI_no] using hb4
          simp at hla
          subst hla
          have u2 := upI_le m2 x.exit true
          have ix : ∀ w, (Instr.index 101 (.agg #[.int .i64 x.ask, .int .i64 x.enter, .int .i64 x.exit, .int .i64 x.rest]) (.int .i64 2)).run Try.prog w = .ok (.int .i64 x.exit) w := fun _ => by kernel_rfl
          have iy : ∀ w, (Instr.index 101 (.agg #[.int .i64 x.ask, .int .i64 x.enter, .int .i64 x.exit, .int .i64 x.rest]) (.int .i64 ((2 : Nat) : Int))).run Try.prog w = .ok (.int .i64 x.exit) w := fun _ => by kernel_rfl
          have cc : wr.cell? ⟨w1.heap.size, 2, none⟩ = some (.int .i64 m2) := hb1.cell 2
          have ff := hb1.free 2
          have hup := RX.out.x1
          have hlo := RX.out.x0
          by_cases hf : 0 ≤ x.exit
          · have HF : Hid (∀ W, Blk W w1.heap.size 101 #[.int .i64 (upI m0 x.ask true), .int .i64 (upI m1 x.enter true), .int .i64 (m2 + 1), .int .i64 m3] → Blk W w1.heap.size 101 #[.int .i64 (upI m0 x.ask (decide (0 < 3))), .int .i64 (upI m1 x.enter (decide (1 < 3))), .int .i64 (upI m2 x.exit (decide (2 < 3))), .int .i64 (upI m3 x.rest (decide (3 < 3)))]) := Lib.hid fun W hW => by
              have e := upI_pos m2 x.exit hf
              simpa [upI_no, e] using hW
            have hgt := (RX.out.x2 hf).1
            have hl0 := (RX.out.x2 hf).2.1
            obtain ⟨e, he, hek, het⟩ := isE_ev (RX.out.x2 hf).2.2
            obtain ⟨ble, offe, g1, g2, hce⟩ := p3 (by omega)
            have d0 := hce _ e he 0 _ rfl
            have d1 := hce _ e he 1 _ rfl
            simp only [Nat.add_zero] at d0
            rw [hek] at d0
            rw [het] at d1
            injection e' with e' _ e''
            subst e' e'' g1
            have t1 : ¬ x.exit < -1 := by omega
            have t2 : ¬ (l.length : Int) ≤ x.exit := by omega
            have t3 : ¬ x.exit ≤ x.enter := by omega
            have u1 : decide (x.exit < -1) = false := decide_eq_false t1
            have u2 : decide ((l.length : Int) ≤ x.exit) = false := decide_eq_false t2
            have u3 : decide (x.exit ≤ x.enter) = false := decide_eq_false t3
            have u4 : decide (0 ≤ x.exit) = true := decide_eq_true hf
            have hlx : x.exit < l.length := by omega
            have t4 : (x.thread != x.thread) = false := by simp
            have t5 : ¬ x.enter < 0 := by omega
            have u5 : decide (x.enter < 0) = false := decide_eq_false t5
            have HH := Lib.hid (And.intro hb1 (And.intro hbx hbel))
            clear hb4 hb1 hbx hbel hce he hek het p3
            go_wp2
            go_quiet (fail)
            go_wp2
            go_roundw
            case rel => exact ⟨3, rfl, by omega, rfl, HF.out _ ((HH.out.1.drewN nq).set_ 2 _), (HH.out.2.1.drewN nq).far hne _, (below_drewN HH.out.2.2 nq).setCell (Nat.le_refl _) _⟩
            case measure => first | (simp [intOf]; done) | (simp [intOf]; omega)
          · have HF : Hid (∀ W, Blk W w1.heap.size 101 #[.int .i64 (upI m0 x.ask true), .int .i64 (upI m1 x.enter true), .int .i64 m2, .int .i64 m3] → Blk W w1.heap.size 101 #[.int .i64 (upI m0 x.ask (decide (0 < 3))), .int .i64 (upI m1 x.enter (decide (1 < 3))), .int .i64 (upI m2 x.exit (decide (2 < 3))), .int .i64 (upI m3 x.rest (decide (3 < 3)))]) := Lib.hid fun W hW => by
              have e := upI_neg m2 x.exit hf
              simpa [upI_no, e] using hW
            have t1 : ¬ x.exit < -1 := by omega
            have t2 : ¬ (l.length : Int) ≤ x.exit := by omega
            have t6 : decide (0 ≤ x.exit) = false := decide_eq_false hf
            have u1 : decide (x.exit < -1) = false := decide_eq_false t1
            have u2 : decide ((l.length : Int) ≤ x.exit) = false := decide_eq_false t2
            injection e' with e' _ e''
            subst e' e''
            have HH := Lib.hid (And.intro hb1 (And.intro hbx hbel))
            clear hb4 hb1 hbx hbel p3
            go_wp2
            go_quiet (fail)
            go_wp2
            go_roundw
            case rel => exact ⟨3, rfl, by omega, rfl, HF.out _ (HH.out.1.drewN nq), HH.out.2.1.drewN nq, below_drewN HH.out.2.2 nq⟩
            case measure => first | (simp [intOf]; done) | (simp [intOf]; omega)
        · have hb1 : Blk wr w1.heap.size 101 #[.int .i64 (upI m0 x.ask true), .int .i64 (upI m1 x.enter true), .int .i64 (upI m2 x.exit true), .int .i64 m3] := by simpa [upI_no] using hb4
          simp at hla
          subst hla
          have u3 := upI_le m3 x.rest true
          have ix : ∀ w, (Instr.index 101 (.agg #[.int .i64 x.ask, .int .i64 x.enter, .int .i64 x.exit, .int .i64 x.rest]) (.int .i64 3)).run Try.prog w = .ok (.int .i64 x.rest) w := fun _ => by kernel_rfl
          have iy : ∀ w, (Instr.index 101 (.agg #[.int .i64 x.ask, .int .i64 x.enter, .int .i64 x.exit, .int .i64 x.rest]) (.int .i64 ((3 : Nat) : Int))).run Try.prog w = .ok (.int .i64 x.rest) w := fun _ => by kernel_rfl
          have cc : wr.cell? ⟨w1.heap.size, 3, none⟩ = some (.int .i64 m3) := hb1.cell 3
          have ff := hb1.free 3
          have hup := RX.out.r1
          have hlo := RX.out.r0
          by_cases hf : 0 ≤ x.rest
          · have HF : Hid (∀ W, Blk W w1.heap.size 101 #[.int .i64 (upI m0 x.ask true), .int .i64 (upI m1 x.enter true), .int .i64 (upI m2 x.exit true), .int .i64 (m3 + 1)] → Blk W w1.heap.size 101 #[.int .i64 (upI m0 x.ask (decide (0 < 4))), .int .i64 (upI m1 x.enter (decide (1 < 4))), .int .i64 (upI m2 x.exit (decide (2 < 4))), .int .i64 (upI m3 x.rest (decide (3 < 4)))]) := Lib.hid fun W hW => by
              have e := upI_pos m3 x.rest hf
              simpa [upI_no, e] using hW
            have hgt := (RX.out.r2 hf).1
            have hl0 := (RX.out.r2 hf).2.1
            obtain ⟨e, he, hek, het⟩ := isE_ev (RX.out.r2 hf).2.2
            obtain ⟨ble, offe, g1, g2, hce⟩ := p3 (by omega)
            have d0 := hce _ e he 0 _ rfl
            have d1 := hce _ e he 1 _ rfl
            simp only [Nat.add_zero] at d0
            rw [hek] at d0
            rw [het] at d1
            injection e' with e' _ e''
            subst e' e'' g1
            have t1 : ¬ x.rest < -1 := by omega
            have t2 : ¬ (l.length : Int) ≤ x.rest := by omega
            have t3 : ¬ x.rest ≤ x.exit := by omega
            have u1 : decide (x.rest < -1) = false := decide_eq_false t1
            have u2 : decide ((l.length : Int) ≤ x.rest) = false := decide_eq_false t2
            have u3 : decide (x.rest ≤ x.exit) = false := decide_eq_false t3
            have u4 : decide (0 ≤ x.rest) = true := decide_eq_true hf
            have hlx : x.rest < l.length := by omega
            have t4 : (x.thread != x.thread) = false := by simp
            have t5 : ¬ x.exit < 0 := by omega
            have u5 : decide (x.exit < 0) = false := decide_eq_false t5
            have HH := Lib.hid (And.intro hb1 (And.intro hbx hbel))
            clear hb4 hb1 hbx hbel hce he hek het p3
            go_wp2
            go_quiet (fail)
            go_wp2
            go_roundw
            case rel => exact ⟨4, rfl, by omega, rfl, HF.out _ ((HH.out.1.drewN nq).set_ 3 _), (HH.out.2.1.drewN nq).far hne _, (below_drewN HH.out.2.2 nq).setCell (Nat.le_refl _) _⟩
            case measure => first | (simp [intOf]; done) | (simp [intOf]; omega)
          · have HF : Hid (∀ W, Blk W w1.heap.size 101 #[.int .i64 (upI m0 x.ask true), .int .i64 (upI m1 x.enter true), .int .i64 (upI m2 x.exit true), .int .i64 m3] → Blk W w1.heap.size 101 #[.int .i64 (upI m0 x.ask (decide (0 < 4))), .int .i64 (upI m1 x.enter (decide (1 < 4))), .int .i64 (upI m2 x.exit (decide (2 < 4))), .int .i64 (upI m3 x.rest (decide (3 < 4)))]) := Lib.hid fun W hW => by
              have e := upI_neg m3 x.rest hf
              simpa [upI_no, e] using hW
            have t1 : ¬ x.rest < -1 := by omega
            have t2 : ¬ (l.length : Int) ≤ x.rest := by omega
            have t6 : decide (0 ≤ x.rest) = false := decide_eq_false hf
            have u1 : decide (x.rest < -1) = false := decide_eq_false t1
            have u2 : decide ((l.length : Int) ≤ x.rest) = false := decide_eq_false t2
            injection e' with e' _ e''
            subst e' e''
            have HH := Lib.hid (And.intro hb1 (And.intro hbx hbel))
            clear hb4 hb1 hbx hbel p3
            go_wp2
            go_quiet (fail)
            go_wp2
            go_roundw
            case rel => exact ⟨4, rfl, by omega, rfl, HF.out _ (HH.out.1.drewN nq), HH.out.2.1.drewN nq, below_drewN HH.out.2.2 nq⟩
            case measure => first | (simp [intOf]; done) | (simp [intOf]; omega)

        · obtain ⟨wv, rfl⟩ : ∃ wv : World, wv = wr := ⟨_, rfl⟩
          simp at hla
          subst hla
          have hm4 : Blk wv w1.heap.size 101 #[.int .i64 (upI m0 x.ask true), .int .i64 (upI m1 x.enter true), .int .i64 (upI m2 x.exit true), .int .i64 (upI m3 x.rest true)] := by simpa using hb4
          have hmk : Hid (Blk wv w1.heap.size 101 #[.int .i64 (cntL Stay.ask (s.take (k + 1))), .int .i64 (cntL Stay.enter (s.take (k + 1))), .int .i64 (cntL Stay.exit (s.take (k + 1))), .int .i64 (cntL Stay.rest (s.take (k + 1)))]) := Lib.hid (by
            rw [HSS.out.1, HSS.out.2.1, HSS.out.2.2.1, HSS.out.2.2.2]
            simpa [upI] using hm4)
          have HB4 := Lib.hid hbel
          have hbx0 := hbx
          clear hb4 hm4 c0 p3 e' hbel
          go_wp2
          go_loopw [10] (fun i wx => ∃ (j n : Nat), i = .int .i64 j ∧ j ≤ k ∧ wx = wv.drewN n) (fun i _ => k - (intOf i).toNat)
          case atStart => exact ⟨0, 0, rfl, by omega, by first | rfl | (rw [World.drewN_zero])⟩
          case round =>
            obtain ⟨j, nd, rfl, hj, rfl⟩ := hrel
            have c0 := hbx.cell 0
            have c2 := hbx.cell 2
            by_cases hjk : j < k
            · have q2 := HCS.out.1
              obtain ⟨y, hy⟩ := getElem?_lt (show j < s.length by omega)
              have a0 := (HB4.out.cell (p := ⟨bl, off + j * 7 + 0, none⟩) q2).trans (HCS.out.2 j y hy 0 _ rfl)
              have a2 := (HB4.out.cell (p := ⟨bl, off + j * 7 + 2, none⟩) q2).trans (HCS.out.2 j y hy 2 _ rfl)
              have a5 := (HB4.out.cell (p := ⟨bl, off + j * 7 + 5, none⟩) q2).trans (HCS.out.2 j y hy 5 _ rfl)
              simp only [Nat.add_zero] at a0
              have hap := pair_get HRI.out.2 hjk hy HG.out.2.2
              have t1 : ¬ x.ask ≤ y.ask := by have := hap.ask; omega
              have u1 : decide (x.ask ≤ y.ask) = false := decide_eq_false t1
              have hjl : (j : Int) < s.length := by omega
              have HH := Lib.hid hbx
              by_cases ht : y.thread = x.thread
              · have hre := hap.rest ht
                have t2 : (y.thread == x.thread) = true := by rw [beq_iff_eq]; exact ht
                have t3 : ¬ y.rest < 0 := by omega
                have t4 : ¬ x.ask < y.rest := by omega
                have u3 : decide (y.rest < 0) = false := decide_eq_false t3
                have u4 : decide (x.ask < y.rest) = false := decide_eq_false t4
                clear hy hap ht hbx
                go_wp2
                go_quiet (fail)
                go_wp2
                go_roundw
                case rel => first | exact ⟨j + 1, nd + nq, by go_num, by omega, by first | rfl | rw [World.drewN_drewN]⟩ | ((repeat apply Exists.intro); exact ⟨⟨j + 1, nd + nq, by go_num, by omega, by first | rfl | rw [World.drewN_drewN]⟩, rfl⟩)
                case measure => first | (simp [intOf]; done) | (simp [intOf]; omega)
              · have t2 : (y.thread == x.thread) = false := by rw [beq_eq_false_iff_ne]; exact ht
                clear hy hap ht hbx
                go_wp2
                go_quiet (fail)
                go_wp2
                go_roundw
                case rel => first | exact ⟨j + 1, nd + nq, by go_num, by omega, by first | rfl | rw [World.drewN_drewN]⟩ | ((repeat apply Exists.intro); exact ⟨⟨j + 1, nd + nq, by go_num, by omega, by first | rfl | rw [World.drewN_drewN]⟩, rfl⟩)
                case measure => first | (simp [intOf]; done) | (simp [intOf]; omega)
            · obtain rfl : j = k := by omega
              clear hbx
              go_wp2
              go_roundw
              case rel => exact ⟨j + 1, by go_num, by omega, hmk.out.drewN nd, below_drewN HB4.out nd⟩
              case measure => first | (simp [intOf]; done) | (simp [intOf]; omega)
    · obtain rfl : k = s.length := by omega
      rw [List.take_length] at hbk
      obtain ⟨m0, hm0⟩ : ∃ m0, m0 = cntL Stay.ask s := ⟨_, rfl⟩
      obtain ⟨m1, hm1⟩ : ∃ m1, m1 = cntL Stay.enter s := ⟨_, rfl⟩
      obtain ⟨m2, hm2⟩ : ∃ m2, m2 = cntL Stay.exit s := ⟨_, rfl⟩
      obtain ⟨m3, hm3⟩ : ∃ m3, m3 = cntL Stay.rest s := ⟨_, rfl⟩
      rw [← hm0, ← hm1, ← hm2, ← hm3] at hbk
      rw [HL.out] at hm0 hm1 hm2 hm3
      have HM := Lib.hid (And.intro hm0 (And.intro hm1 (And.intro hm2 hm3)))
      have S0 : Hid (∀ W, Below wo.heap.size wo W → (W.cell? ⟨w1.heap.size, 0, none⟩ = some (.int .i64 m0) ∧ W.cell? ⟨w1.heap.size, 1, none⟩ = some (.int .i64 m1) ∧ W.cell? ⟨w1.heap.size, 2, none⟩ = some (.int .i64 m2) ∧ W.cell? ⟨w1.heap.size, 3, none⟩ = some (.int .i64 m3))) := Lib.hid fun W hb => by
        have e1 := hbk.below hb hbk.lt
        exact ⟨e1.cell 0, e1.cell 1, e1.cell 2, e1.cell 3⟩
      have kv : Below wo.heap.size wo wo := Below.refl _ _
      have hV := hbel.size
      have HB4 := Lib.hid hbel
      have HR4 : Hid (∀ W, Below wo.heap.size wo W → RdL W (.slice A l.length cap) 4 encE l) := Lib.hid fun W hW => (HR.out.below HB.out (Nat.le_refl _)).below (HB4.out.trans (hW.mono hV)) (Nat.le_refl _)
      clear hm0 hm1 hm2 hm3 hbk hbel
      go_wp2_with fail
      go_region_held3 (fun W => W.cell? ⟨w1.heap.size, 0, none⟩ = some (.int .i64 m0) ∧ W.cell? ⟨w1.heap.size, 1, none⟩ = some (.int .i64 m1) ∧ W.cell? ⟨w1.heap.size, 2, none⟩ = some (.int .i64 m2) ∧ W.cell? ⟨w1.heap.size, 3, none⟩ = some (.int .i64 m3))
        (first | exact S0.out _ kv | exact S0.out _ kv.drew | exact S0.out _ k2 | exact S0.out _ k3)
        (first
          | (go_at_call 60; go_loud (refine (many_call _ _ l m0 m1 m2 m3 HM.out.1 HM.out.2.1 HM.out.2.2.1 HM.out.2.2.2 (by exact HR4.out _ kv.drew) HW.out (by omega)).mono ?_); rintro en w2 ⟨rfl, b2⟩; have k2 : Below wo.heap.size wo w2 := by exact ⟨b2.os, b2.tape, b2.output, b2.size, b2.block⟩)
          | (go_at_call 52; go_loud (refine (awake12 _).mono ?_); rintro en w3 ⟨rfl, b3⟩; have k3 : Below wo.heap.size wo w3 := k2.trans (b3.mono k2.size)))
      all_goals
        go_wp2
        go_ret
        exact ⟨rfl, HB.out.trans ((HB4.out.trans (k3.mono hV)).mono HB.out.size)⟩
end Go.Proofs.Ytfbiejkdeadheaa
