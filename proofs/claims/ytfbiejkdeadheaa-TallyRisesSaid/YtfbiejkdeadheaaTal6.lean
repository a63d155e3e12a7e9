/- Layer 12: tally.Many. -/
import Derived.Test.YtfbiejkdeadheaaTal5
import Derived.Test.YtfbiejkdeadheaaTal4
namespace Go.Proofs.Ytfbiejkdeadheaa
open Go.RowKit Go.Maps

def cntL (f : Stay → Int) (s : List Stay) : Int := ((s.filter (fun x => decide (0 ≤ f x))).length : Int)
theorem cntL_succ (f : Stay → Int) (s : List Stay) (k : Nat) (x : Stay) (h : s[k]? = some x) : cntL f (s.take (k + 1)) = if 0 ≤ f x then cntL f (s.take k) + 1 else cntL f (s.take k) := by
  unfold cntL
  rw [take_succ_of h, List.filter_append]
  by_cases hf : 0 ≤ f x
  · rw [if_pos hf]; simp [hf]
  · rw [if_neg hf]; simp [hf]
theorem cntL_le (f : Stay → Int) (s : List Stay) (k : Nat) : 0 ≤ cntL f (s.take k) ∧ cntL f (s.take k) ≤ k := by
  unfold cntL
  have h1 := List.length_filter_le (fun x => decide (0 ≤ f x)) (s.take k)
  have h2 := List.length_take_le k s
  omega
def upI (m f : Int) (b : Bool) : Int := if b = true ∧ 0 ≤ f then m + 1 else m
theorem upI_no (m f : Int) : upI m f false = m := by unfold upI; rw [if_neg (by simp)]
theorem upI_pos (m f : Int) (h : 0 ≤ f) : upI m f true = m + 1 := by unfold upI; rw [if_pos ⟨rfl, h⟩]
theorem upI_neg (m f : Int) (h : ¬ 0 ≤ f) : upI m f true = m := by unfold upI; rw [if_neg (fun k => h k.2)]
theorem upI_le (m f : Int) (b : Bool) : m ≤ upI m f b ∧ upI m f b ≤ m + 1 := by unfold upI; split <;> omega

set_option maxRecDepth 100000 in
set_option maxHeartbeats 4000000 in
theorem many_any (w : World) (v : Value) (l : List Ev) (h : RdL w v 4 encE l) (hwf : ∀ e ∈ l, wfE e) (hlen : l.length ≤ 60000) :
    Calls Try.prog 60 #[v] w fun e w' => e = .returned (.agg #[.int .i64 (cntL Stay.ask (tallyL l)), .int .i64 (cntL Stay.enter (tallyL l)), .int .i64 (cntL Stay.exit (tallyL l)), .int .i64 (cntL Stay.rest (tallyL l))]) ∧ Below w.heap.size w w' := by
  obtain ⟨A, cap, rfl, l1, l2, hr⟩ := h
  have HR : Hid (RdL w (.slice A l.length cap) 4 encE l) := Lib.hid ⟨A, cap, rfl, l1, l2, hr⟩
  have HW := Lib.hid hwf
  clear hr hwf
  go_enter Try.func60, Try.ntmps60
  go_wp2_with fail
  refine (tallyOf_any _ _ l ((HR.out.alloc _).alloc _) HW.out hlen).mono ?_
  rintro en w1 ⟨v1, rfl, hown, hb⟩
  have htl := tallyL_len l
  obtain ⟨s, hs⟩ : ∃ s, s = tallyL l := ⟨_, rfl⟩
  rw [← hs] at hown htl
  obtain ⟨A1, c1, rfl⟩ := own_form hown
  have hz : (w.alloc (.cells #[.int .i64 0, .int .i64 0, .int .i64 0, .int .i64 0] 101)).heap.size = w.heap.size + 1 := by simp
  have k0 : Blk w1 w.heap.size 101 #[.int .i64 0, .int .i64 0, .int .i64 0, .int .i64 0] := ((Blk.new' w _ _ rfl).alloc _).below hb (by simp; omega)
  have k1 : Blk w1 (w.heap.size + 1) 101 #[.int .i64 0, .int .i64 0, .int .i64 0, .int .i64 0] := (Blk.new' _ _ _ hz.symm).below hb (by simp)
  have bw : Below w.heap.size w w1 := (((Below.refl _ _).alloc (Nat.le_refl _) _).alloc (by simp) _).trans (hb.mono (by simp; omega))
  have hw1 := bw.size
  have HS : Hid (∀ wr, w1.grownBy wr (some (w.heap.size + 1)) → RdL wr (.slice A1 s.length c1) 7 encS s) := Lib.hid fun wr hg => by
    obtain ⟨A', c', e', p1, p2, p3⟩ := RdL.of_own encS_len rfl (by omega) hown
    refine ⟨A', c', e', p1, p2, fun hn => ?_⟩
    obtain ⟨b, off, q1, q2, q3⟩ := p3 hn
    injection e' with e' _ _
    obtain ⟨g, c2, r1, r2, r3⟩ := own_form1 hown hn
    injection r1 with r1 _ _
    rw [e', q1] at r1
    injection r1 with r1
    injection r1 with r1 _ _
    refine ⟨b, off, q1, Nat.lt_of_lt_of_le q2 hg.size, fun i x hx j u hu => hg.cell (q3 i x hx j u hu) ?_⟩
    simp at r2
    show some b ≠ some (w.heap.size + 1)
    intro hh
    injection hh
    omega
  have HB := Lib.hid (And.intro k0 bw)
  have HL := Lib.hid hs
  clear hown hb hs k0 hz
  go_wp2
  go_loopw [11] (fun i wr => ∃ k : Nat, i = .int .i64 k ∧ k ≤ s.length ∧ Blk wr (w.heap.size + 1) 101 #[.int .i64 (cntL Stay.ask (s.take k)), .int .i64 (cntL Stay.enter (s.take k)), .int .i64 (cntL Stay.exit (s.take k)), .int .i64 (cntL Stay.rest (s.take k))] ∧ w1.grownBy wr (some (w.heap.size + 1))) (fun i _ => s.length - (intOf i).toNat)
  case atStart => exact ⟨0, rfl, by omega, k1, grown_refl _ _⟩
  case round =>
    clear k1
    obtain ⟨k, rfl, hk, hbk, hgr⟩ := hrel
    by_cases hlt : k < s.length
    · obtain ⟨A', c', e', p1, p2, p3⟩ := HS.out wr hgr
      obtain ⟨bl, off, q1, q2, hc⟩ := p3 (by omega)
      injection e' with e' _ e''
      subst e' e'' q1
      obtain ⟨x, hx⟩ := getElem?_lt hlt
      have a0 := hc k x hx 0 _ rfl
      have a1 := hc k x hx 1 _ rfl
      have a2 := hc k x hx 2 _ rfl
      have a3 := hc k x hx 3 _ rfl
      have a4 := hc k x hx 4 _ rfl
      have a5 := hc k x hx 5 _ rfl
      have a6 := hc k x hx 6 _ rfl
      simp only [Nat.add_zero] at a0
      have s0 := cntL_succ Stay.ask s k x hx
      have s1 := cntL_succ Stay.enter s k x hx
      have s2 := cntL_succ Stay.exit s k x hx
      have s3 := cntL_succ Stay.rest s k x hx
      have z0 := cntL_le Stay.ask s k
      have z1 := cntL_le Stay.enter s k
      have z2 := cntL_le Stay.exit s k
      have z3 := cntL_le Stay.rest s k
      have HSS := Lib.hid (And.intro s0 (And.intro s1 (And.intro s2 s3)))
      clear s0 s1 s2 s3
      obtain ⟨m0, hm0⟩ : ∃ m0, m0 = cntL Stay.ask (s.take k) := ⟨_, rfl⟩
      obtain ⟨m1, hm1⟩ : ∃ m1, m1 = cntL Stay.enter (s.take k) := ⟨_, rfl⟩
      obtain ⟨m2, hm2⟩ : ∃ m2, m2 = cntL Stay.exit (s.take k) := ⟨_, rfl⟩
      obtain ⟨m3, hm3⟩ : ∃ m3, m3 = cntL Stay.rest (s.take k) := ⟨_, rfl⟩
      rw [← hm0] at z0 hbk HSS
      rw [← hm1] at z1 hbk HSS
      rw [← hm2] at z2 hbk HSS
      rw [← hm3] at z3 hbk HSS
      have hgl := hbk.lt
      have HG := Lib.hid (And.intro hbk hgr)
      clear hc hx p3 hm0 hm1 hm2 hm3 hbk hgr
      go_wp2
      go_loopw [24] (fun i wr => ∃ q : Nat, i = .int .i64 q ∧ q ≤ 4 ∧ Blk wr (w.heap.size + 1) 101 #[.int .i64 (upI m0 x.ask (decide (0 < q))), .int .i64 (upI m1 x.enter (decide (1 < q))), .int .i64 (upI m2 x.exit (decide (2 < q))), .int .i64 (upI m3 x.rest (decide (3 < q)))] ∧ w1.grownBy wr (some (w.heap.size + 1))) (fun i _ => 4 - (intOf i).toNat)
      case atStart => exact ⟨0, rfl, by omega, by simp only [show decide (0 < 0) = false from rfl, show decide (1 < 0) = false from rfl, show decide (2 < 0) = false from rfl, show decide (3 < 0) = false from rfl, upI_no]; exact HG.out.1.alloc _, grown_alloc HG.out.2 _⟩
      case round =>
        clear a0 a1 a2 a3 a4 a5 a6
        obtain ⟨q, rfl, hq, hbk, hgr⟩ := hrel
        rcases (show q = 0 ∨ q = 1 ∨ q = 2 ∨ q = 3 ∨ q = 4 from by omega) with rfl | rfl | rfl | rfl | rfl
        · have hb1 : Blk wr (w.heap.size + 1) 101 #[.int .i64 m0, .int .i64 m1, .int .i64 m2, .int .i64 m3] := by simpa [upI_no] using hbk
          have u0 := upI_le m0 x.ask true
          have ix : ∀ w, (Instr.index 101 (.agg #[.int .i64 x.ask, .int .i64 x.enter, .int .i64 x.exit, .int .i64 x.rest]) (.int .i64 0)).run Try.prog w = .ok (.int .i64 x.ask) w := fun _ => by kernel_rfl
          have iy : ∀ w, (Instr.index 101 (.agg #[.int .i64 x.ask, .int .i64 x.enter, .int .i64 x.exit, .int .i64 x.rest]) (.int .i64 ((0 : Nat) : Int))).run Try.prog w = .ok (.int .i64 x.ask) w := fun _ => by kernel_rfl
          have cc := hb1.cell 0
          have ff := hb1.free 0
          have hgl2 := hb1.lt
          by_cases hf : 0 ≤ x.ask
          · have HF : Hid (∀ W, Blk W (w.heap.size + 1) 101 #[.int .i64 (m0 + 1), .int .i64 m1, .int .i64 m2, .int .i64 m3] → Blk W (w.heap.size + 1) 101 #[.int .i64 (upI m0 x.ask (decide (0 < 1))), .int .i64 (upI m1 x.enter (decide (1 < 1))), .int .i64 (upI m2 x.exit (decide (2 < 1))), .int .i64 (upI m3 x.rest (decide (3 < 1)))]) := Lib.hid fun W hW => by
              have e := upI_pos m0 x.ask hf
              simpa [upI_no, e] using hW
            have HH := Lib.hid (And.intro hb1 hgr)
            clear hbk hb1 hgr
            go_wp2
            go_roundw
            case rel => exact ⟨1, rfl, by omega, HF.out _ (HH.out.1.set_ 0 _), grown_set HH.out.2 _ _⟩
            case measure => first | (simp [intOf]; done) | (simp [intOf]; omega)
          · have HF : Hid (∀ W, Blk W (w.heap.size + 1) 101 #[.int .i64 m0, .int .i64 m1, .int .i64 m2, .int .i64 m3] → Blk W (w.heap.size + 1) 101 #[.int .i64 (upI m0 x.ask (decide (0 < 1))), .int .i64 (upI m1 x.enter (decide (1 < 1))), .int .i64 (upI m2 x.exit (decide (2 < 1))), .int .i64 (upI m3 x.rest (decide (3 < 1)))]) := Lib.hid fun W hW => by
              have e := upI_neg m0 x.ask hf
              simpa [upI_no, e] using hW
            have HH := Lib.hid (And.intro hb1 hgr)
            clear hbk hb1 hgr
            go_wp2
            go_roundw
            case rel => exact ⟨1, rfl, by omega, HF.out _ HH.out.1, HH.out.2⟩
            case measure => first | (simp [intOf]; done) | (simp [intOf]; omega)
        · have hb1 : Blk wr (w.heap.size + 1) 101 #[.int .i64 (upI m0 x.ask true), .int .i64 m1, .int .i64 m2, .int .i64 m3] := by simpa [upI_no] using hbk
          have u1 := upI_le m1 x.enter true
          have ix : ∀ w, (Instr.index 101 (.agg #[.int .i64 x.ask, .int .i64 x.enter, .int .i64 x.exit, .int .i64 x.rest]) (.int .i64 1)).run Try.prog w = .ok (.int .i64 x.enter) w := fun _ => by kernel_rfl
          have iy : ∀ w, (Instr.index 101 (.agg #[.int .i64 x.ask, .int .i64 x.enter, .int .i64 x.exit, .int .i64 x.rest]) (.int .i64 ((1 : Nat) : Int))).run Try.prog w = .ok (.int .i64 x.enter) w := fun _ => by kernel_rfl
          have cc := hb1.cell 1
          have ff := hb1.free 1
          have hgl2 := hb1.lt
          by_cases hf : 0 ≤ x.enter
          · have HF : Hid (∀ W, Blk W (w.heap.size + 1) 101 #[.int .i64 (upI m0 x.ask true), .int .i64 (m1 + 1), .int .i64 m2, .int .i64 m3] → Blk W (w.heap.size + 1) 101 #[.int .i64 (upI m0 x.ask (decide (0 < 2))), .int .i64 (upI m1 x.enter (decide (1 < 2))), .int .i64 (upI m2 x.exit (decide (2 < 2))), .int .i64 (upI m3 x.rest (decide (3 < 2)))]) := Lib.hid fun W hW => by
              have e := upI_pos m1 x.enter hf
              simpa [upI_no, e] using hW
            have HH := Lib.hid (And.intro hb1 hgr)
            clear hbk hb1 hgr
            go_wp2
            go_roundw
            case rel => exact ⟨2, rfl, by omega, HF.out _ (HH.out.1.set_ 1 _), grown_set HH.out.2 _ _⟩
            case measure => first | (simp [intOf]; done) | (simp [intOf]; omega)
          · have HF : Hid (∀ W, Blk W (w.heap.size + 1) 101 #[.int .i64 (upI m0 x.ask true), .int .i64 m1, .int .i64 m2, .int .i64 m3] → Blk W (w.heap.size + 1) 101 #[.int .i64 (upI m0 x.ask (decide (0 < 2))), .int .i64 (upI m1 x.enter (decide (1 < 2))), .int .i64 (upI m2 x.exit (decide (2 < 2))), .int .i64 (upI m3 x.rest (decide (3 < 2)))]) := Lib.hid fun W hW => by
              have e := upI_neg m1 x.enter hf
              simpa [upI_no, e] using hW
            have HH := Lib.hid (And.intro hb1 hgr)
            clear hbk hb1 hgr
            go_wp2
            go_roundw
            case rel => exact ⟨2, rfl, by omega, HF.out _ HH.out.1, HH.out.2⟩
            case measure => first | (simp [intOf]; done) | (simp [intOf]; omega)
        · have hb1 : Blk wr (w.heap.size + 1) 101 #[.int .i64 (upI m0 x.ask true), .int .i64 (upI m1 x.enter true), .int .i64 m2, .int .i64 m3] := by simpa [upI_no] using hbk
          have u2 := upI_le m2 x.exit true
          have ix : ∀ w, (Instr.index 101 (.agg #[.int .i64 x.ask, .int .i64 x.enter, .int .i64 x.exit, .int .i64 x.rest]) (.int .i64 2)).run Try.prog w = .ok (.int .i64 x.exit) w := fun _ => by kernel_rfl
          have iy : ∀ w, (Instr.index 101 (.agg #[.int .i64 x.ask, .int .i64 x.enter, .int .i64 x.exit, .int .i64 x.rest]) (.int .i64 ((2 : Nat) : Int))).run Try.prog w = .ok (.int .i64 x.exit) w := fun _ => by kernel_rfl
          have cc := hb1.cell 2
          have ff := hb1.free 2
          have hgl2 := hb1.lt
          by_cases hf : 0 ≤ x.exit
          · have HF : Hid (∀ W, Blk W (w.heap.size + 1) 101 #[.int .i64 (upI m0 x.ask true), .int .i64 (upI m1 x.enter true), .int .i64 (m2 + 1), .int .i64 m3] → Blk W (w.heap.size + 1) 101 #[.int .i64 (upI m0 x.ask (decide (0 < 3))), .int .i64 (upI m1 x.enter (decide (1 < 3))), .int .i64 (upI m2 x.exit (decide (2 < 3))), .int .i64 (upI m3 x.rest (decide (3 < 3)))]) := Lib.hid fun W hW => by
              have e := upI_pos m2 x.exit hf
              simpa [upI_no, e] using hW
            have HH := Lib.hid (And.intro hb1 hgr)
            clear hbk hb1 hgr
            go_wp2
            go_roundw
            case rel => exact ⟨3, rfl, by omega, HF.out _ (HH.out.1.set_ 2 _), grown_set HH.out.2 _ _⟩
            case measure => first | (simp [intOf]; done) | (simp [intOf]; omega)
          · have HF : Hid (∀ W, Blk W (w.heap.size + 1) 101 #[.int .i64 (upI m0 x.ask true), .int .i64 (upI m1 x.enter true), .int .i64 m2, .int .i64 m3] → Blk W (w.heap.size + 1) 101 #[.int .i64 (upI m0 x.ask (decide (0 < 3))), .int .i64 (upI m1 x.enter (decide (1 < 3))), .int .i64 (upI m2 x.exit (decide (2 < 3))), .int .i64 (upI m3 x.rest (decide (3 < 3)))]) := Lib.hid fun W hW => by
              have e := upI_neg m2 x.exit hf
              simpa [upI_no, e] using hW
            have HH := Lib.hid (And.intro hb1 hgr)
            clear hbk hb1 hgr
            go_wp2
            go_roundw
            case rel => exact ⟨3, rfl, by omega, HF.out _ HH.out.1, HH.out.2⟩
            case measure => first | (simp [intOf]; done) | (simp [intOf]; omega)
        · have hb1 : Blk wr (w.heap.size + 1) 101 #[.int .i64 (upI m0 x.ask true), .int .i64 (upI m1 x.enter true), .int .i64 (upI m2 x.exit true), .int .i64 m3] := by simpa [upI_no] using hbk
          have u3 := upI_le m3 x.rest true
          have ix : ∀ w, (Instr.index 101 (.agg #[.int .i64 x.ask, .int .i64 x.enter, .int .i64 x.exit, .int .i64 x.rest]) (.int .i64 3)).run Try.prog w = .ok (.int .i64 x.rest) w := fun _ => by kernel_rfl
          have iy : ∀ w, (Instr.index 101 (.agg #[.int .i64 x.ask, .int .i64 x.enter, .int .i64 x.exit, .int .i64 x.rest]) (.int .i64 ((3 : Nat) : Int))).run Try.prog w = .ok (.int .i64 x.rest) w := fun _ => by kernel_rfl
          have cc := hb1.cell 3
          have ff := hb1.free 3
          have hgl2 := hb1.lt
          by_cases hf : 0 ≤ x.rest
          · have HF : Hid (∀ W, Blk W (w.heap.size + 1) 101 #[.int .i64 (upI m0 x.ask true), .int .i64 (upI m1 x.enter true), .int .i64 (upI m2 x.exit true), .int .i64 (m3 + 1)] → Blk W (w.heap.size + 1) 101 #[.int .i64 (upI m0 x.ask (decide (0 < 4))), .int .i64 (upI m1 x.enter (decide (1 < 4))), .int .i64 (upI m2 x.exit (decide (2 < 4))), .int .i64 (upI m3 x.rest (decide (3 < 4)))]) := Lib.hid fun W hW => by
              have e := upI_pos m3 x.rest hf
              simpa [upI_no, e] using hW
            have HH := Lib.hid (And.intro hb1 hgr)
            clear hbk hb1 hgr
            go_wp2
            go_roundw
            case rel => exact ⟨4, rfl, by omega, HF.out _ (HH.out.1.set_ 3 _), grown_set HH.out.2 _ _⟩
            case measure => first | (simp [intOf]; done) | (simp [intOf]; omega)
          · have HF : Hid (∀ W, Blk W (w.heap.size + 1) 101 #[.int .i64 (upI m0 x.ask true), .int .i64 (upI m1 x.enter true), .int .i64 (upI m2 x.exit true), .int .i64 m3] → Blk W (w.heap.size + 1) 101 #[.int .i64 (upI m0 x.ask (decide (0 < 4))), .int .i64 (upI m1 x.enter (decide (1 < 4))), .int .i64 (upI m2 x.exit (decide (2 < 4))), .int .i64 (upI m3 x.rest (decide (3 < 4)))]) := Lib.hid fun W hW => by
              have e := upI_neg m3 x.rest hf
              simpa [upI_no, e] using hW
            have HH := Lib.hid (And.intro hb1 hgr)
            clear hbk hb1 hgr
            go_wp2
            go_roundw
            case rel => exact ⟨4, rfl, by omega, HF.out _ HH.out.1, HH.out.2⟩
            case measure => first | (simp [intOf]; done) | (simp [intOf]; omega)
        · have hb1 : Blk wr (w.heap.size + 1) 101 #[.int .i64 (cntL Stay.ask (s.take (k + 1))), .int .i64 (cntL Stay.enter (s.take (k + 1))), .int .i64 (cntL Stay.exit (s.take (k + 1))), .int .i64 (cntL Stay.rest (s.take (k + 1)))] := by
            rw [HSS.out.1, HSS.out.2.1, HSS.out.2.2.1, HSS.out.2.2.2]
            simpa [upI] using hbk
          have HH := Lib.hid (And.intro hb1 hgr)
          clear hbk hb1 hgr
          go_wp2
          go_roundw
          case rel => exact ⟨k + 1, by go_num, by omega, HH.out.1, HH.out.2⟩
          case measure => first | (simp [intOf]; done) | (simp [intOf]; omega)
    · obtain rfl : k = s.length := by omega
      rw [List.take_length] at hbk
      have e0 := HB.out.1.grown hgr (by simp)
      have z0 := e0.cell 0
      have z1 := e0.cell 1
      have z2 := e0.cell 2
      have z3 := e0.cell 3
      have y0 := e0.free 0
      have y1 := e0.free 1
      have y2 := e0.free 2
      have y3 := e0.free 3
      have v0 := hbk.cell 0
      have v1 := hbk.cell 1
      have v2 := hbk.cell 2
      have v3 := hbk.cell 3
      have bf : Below w.heap.size w wr := ⟨hgr.os.trans HB.out.2.os, hgr.tape.trans HB.out.2.tape, hgr.output.trans HB.out.2.output, Nat.le_trans HB.out.2.size hgr.size, fun i hi => (hgr.block i (by omega) (by intro hh; injection hh; omega)).trans (HB.out.2.block i hi)⟩
      have hl0 := e0.lt
      have HH := Lib.hid bf
      have e0k := e0
      clear hbk hgr e0 bf
      have HE := Lib.hid e0k
      clear e0k
      go_wp2
      (try simp only [Exit.inBlock, Exit.then])
      refine bodyPost_ret (results_cell_row (by rfl) _ _ w.heap.size 101 _ (0, 0) _ (by rfl) (by exact ((((HE.out.set_ 0 _).set_ 1 _).set_ 2 _).set_ 3 _)) Try.underlying101 rfl (by kernel_rfl)) rfl ?_
      rw [← HL.out]
      exact ⟨rfl, (((HH.out.setCell (by simp) _).setCell (by simp) _).setCell (by simp) _).setCell (by simp) _⟩
end Go.Proofs.Ytfbiejkdeadheaa
