/- Layer 12: awake. -/
import Derived.Test.YtfbiejkdeadheaaTal9
import Derived.Test.YtfbiejkdeadheaaByp6
import Derived.Test.YtfbiejkdeadheaaSameS
import Derived.Test.YtfbiejkdeadheaaSameI
namespace Go.Proofs.Ytfbiejkdeadheaa
open Go.RowKit Go.Maps

@[go_sem] theorem guardArr4 : Try.prog.eqGuardType Try.prog.depth 101 = false := by kernel_rfl
def aw12 : List Ev := [⟨1, 0, false, 0⟩, ⟨1, 1, false, 0⟩, ⟨2, 1, false, 2⟩, ⟨3, 1, false, 0⟩, ⟨2, 0, false, 1⟩, ⟨4, 1, false, 0⟩]
theorem aw12_wf : ∀ e ∈ aw12, wfE e := by
  intro e he
  simp only [aw12, List.mem_cons, List.not_mem_nil, or_false] at he
  rcases he with rfl | rfl | rfl | rfl | rfl | rfl <;> (unfold wfE; decide)
theorem aw2_wf : ∀ e ∈ aw12.take 2, wfE e := fun e he => aw12_wf e (List.mem_of_mem_take he)
def awS : List Stay := [⟨0, false, 0, 4, -1, -1, 1⟩, ⟨1, false, 1, 2, 3, 5, 2⟩]
theorem aw_tally : tallyL aw12 = awS := by decide
theorem sameStay_true (w : World) (v1 v2 : Value) (a b : List Stay) (hab : a = b) (h1 : RdL w v1 7 encS a) (h2 : RdL w v2 7 encS b) :
    Calls Try.prog 53 #[v1, v2] w fun e w' => e = .returned (.bool true) ∧ Qt w w' :=
  (sameStay_any w v1 v2 a b h1 h2).mono fun _ _ ⟨he, hq⟩ => ⟨by rw [he, hab]; simp, hq⟩
theorem sameInt_true (w : World) (v1 v2 : Value) (a b : List Int) (hab : a = b) (h1 : RdL w v1 1 encI a) (h2 : RdL w v2 1 encI b) :
    Calls Try.prog 44 #[v1, v2] w fun e w' => e = .returned (.bool true) ∧ Qt w w' :=
  (sameInt_any w v1 v2 a b h1 h2).mono fun _ _ ⟨he, hq⟩ => ⟨by rw [he, hab]; simp, hq⟩
theorem longest_call (w : World) (v : Value) (l : List Ev) (q : Int) (hq : q = longL l (tallyL l)) (h : RdL w v 4 encE l) (hwf : ∀ e ∈ l, wfE e) (hlen : l.length ≤ 60000) :
    Calls Try.prog 57 #[v] w fun e w' => e = .returned (.int .i64 q) ∧ Below w.heap.size w w' := by subst hq; exact longest_any w v l h hwf hlen
theorem many_call (w : World) (v : Value) (l : List Ev) (a b c d : Int) (ha : a = cntL Stay.ask (tallyL l)) (hb : b = cntL Stay.enter (tallyL l)) (hc : c = cntL Stay.exit (tallyL l)) (hd : d = cntL Stay.rest (tallyL l)) (h : RdL w v 4 encE l) (hwf : ∀ e ∈ l, wfE e) (hlen : l.length ≤ 60000) :
    Calls Try.prog 60 #[v] w fun e w' => e = .returned (.agg #[.int .i64 a, .int .i64 b, .int .i64 c, .int .i64 d]) ∧ Below w.heap.size w w' := by subst ha hb hc hd; exact many_any w v l h hwf hlen
theorem fifo_call2 (w : World) (v : Value) (l : List Ev) (b : Bool) (hb : fifoB l (tallyL l) = b) (h : RdL w v 4 encE l) (hwf : ∀ e ∈ l, wfE e) (hlen : l.length ≤ 60000) :
    Calls Try.prog 27 #[v] w fun e w' => e = .returned (.bool b) ∧ Below w.heap.size w w' := by rw [← hb]; exact fifo_any w v l h hwf hlen
theorem rdl_cut {α : Type} {enc : α → List Value} {sz : Nat} {w : World} {A : Option Addr} {n cap : Nat} {l : List α} (h : RdL w (.slice A n cap) sz enc l) (m : Nat) (hm : m ≤ n) : RdL w (.slice A m cap) sz enc (l.take m) := by
  obtain ⟨A', c', e, h1, h2, h3⟩ := h
  injection e with e1 e2 e3
  subst e1 e2 e3
  have hl : (l.take m).length = m := by rw [List.length_take]; omega
  refine ⟨A, cap, by rw [hl], by omega, by omega, fun hn => ?_⟩
  obtain ⟨b, off, q1, q2, q3⟩ := h3 (by omega)
  refine ⟨b, off, q1, q2, fun i x hx j u hu => q3 i x ?_ j u hu⟩
  rw [List.getElem?_take] at hx
  split at hx
  · exact hx
  · simp at hx

set_option maxRecDepth 100000 in
set_option maxHeartbeats 4000000 in
theorem awake12 (w : World) : Calls Try.prog 52 #[] w fun e w' => e = .returned (.bool true) ∧ Below w.heap.size w w' := by
  go_enter Try.func52, Try.ntmps52
  go_wp2_with fail
  refine (tallyOf_any _ _ aw12 (RdL.lit encE_len _ _ _ aw12 rfl rfl rfl (by decide)) aw12_wf (by decide)).mono ?_
  rintro en w1 ⟨v1, rfl, hown, hb1⟩
  have hr1 : RdL w1 v1 7 encS awS := by
    have := RdL.of_own encS_len rfl (by rw [aw_tally]; decide) hown
    rwa [aw_tally] at this
  have hbw : Below w.heap.size w w1 := ((Below.refl _ w).alloc (Nat.le_refl _) _).trans (hb1.mono (by simp))
  have hre : RdL w1 (.slice (some ⟨w.heap.size, 0, none⟩) 6 6) 4 encE aw12 := (RdL.lit encE_len _ _ _ aw12 rfl rfl rfl (by decide)).below hb1 (by simp)
  have HR1 := Lib.hid hr1
  have HRE := Lib.hid hre
  have HB := Lib.hid hbw
  clear hb1 hre hbw hr1 hown
  go_wp2_with fail
  refine (sameStay_true _ _ _ awS awS rfl (HR1.out.alloc _) (RdL.lit encS_len _ _ _ _ rfl rfl rfl (by decide))).mono ?_
  rintro en w2 ⟨rfl, ⟨n2, rfl⟩⟩
  go_wp2_with fail
  refine (entries_any _ _ aw12 ((HRE.out.alloc _).drewN _) aw12_wf (by decide)).mono ?_
  rintro en w3 ⟨v3, rfl, hr3, hb3⟩
  have hre3 : RdL w3 (.slice (some ⟨w.heap.size, 0, none⟩) 6 6) 4 encE aw12 := ((HRE.out.alloc _).drewN _).below hb3 (Nat.le_refl _)
  have hbw3 : Below w.heap.size w w3 := (below_drewN (HB.out.alloc HB.out.size _) n2).trans (hb3.mono (by have := HB.out.size; simp; omega))
  have hr3' : RdL w3 v3 1 encI [1, 0] := by
    have e : (entTo (tallyL aw12) aw12.length).map Stay.thread = [1, 0] := by decide
    rwa [e] at hr3
  have HR3 := Lib.hid hr3'
  have HRE3 := Lib.hid hre3
  have HB3 := Lib.hid hbw3
  clear hb3 hre3 hbw3 hr3 hr3'
  go_wp2_with fail
  refine (sameInt_true _ _ _ [1, 0] [1, 0] rfl (HR3.out.alloc _) (RdL.lit encI_len _ _ _ _ rfl rfl rfl (by decide))).mono ?_
  rintro en w4 ⟨rfl, ⟨n4, rfl⟩⟩
  go_wp2_with fail
  refine (longest_call _ _ aw12 4 (by decide) ((HRE3.out.alloc _).drewN _) aw12_wf (by decide)).mono ?_
  rintro en w5 ⟨rfl, hb5⟩
  have hre5 : RdL w5 (.slice (some ⟨w.heap.size, 0, none⟩) 6 6) 4 encE aw12 := ((HRE3.out.alloc _).drewN _).below hb5 (Nat.le_refl _)
  have hbw5 : Below w.heap.size w w5 := (below_drewN (HB3.out.alloc HB3.out.size _) n4).trans (hb5.mono (by have := HB3.out.size; simp; omega))
  have HRE5 := Lib.hid hre5
  have HB5 := Lib.hid hbw5
  clear hb5 hre5 hbw5
  go_wp2_with fail
  refine (fifo_call2 _ _ aw12 false (by decide) HRE5.out aw12_wf (by decide)).mono ?_
  rintro en w6 ⟨rfl, hb6⟩
  have hre6 : RdL w6 (.slice (some ⟨w.heap.size, 0, none⟩) 6 6) 4 encE aw12 := HRE5.out.below hb6 (Nat.le_refl _)
  have hbw6 : Below w.heap.size w w6 := HB5.out.trans (hb6.mono HB5.out.size)
  have HRE6 := Lib.hid hre6
  have HB6 := Lib.hid hbw6
  clear hb6 hre6 hbw6
  go_wp2_with fail
  refine (fifo_call2 _ _ (aw12.take 2) true (by decide) (rdl_cut HRE6.out 2 (by decide)) aw2_wf (by decide)).mono ?_
  rintro en w7 ⟨rfl, hb7⟩
  have hre7 : RdL w7 (.slice (some ⟨w.heap.size, 0, none⟩) 6 6) 4 encE aw12 := HRE6.out.below hb7 (Nat.le_refl _)
  have hbw7 : Below w.heap.size w w7 := HB6.out.trans (hb7.mono HB6.out.size)
  have HRE7 := Lib.hid hre7
  have HB7 := Lib.hid hbw7
  clear hb7 hre7 hbw7
  go_wp2_with fail
  refine (many_call _ _ aw12 2 2 1 1 (by decide) (by decide) (by decide) (by decide) HRE7.out aw12_wf (by decide)).mono ?_
  rintro en w8 ⟨rfl, hb8⟩
  have hbw8 : Below w.heap.size w w8 := HB7.out.trans (hb8.mono HB7.out.size)
  have HB8 := Lib.hid hbw8
  clear hb8 hbw8
  have heq : ∀ w, (Op.equalIn 10000 101 (.agg #[.int .i64 2, .int .i64 2, .int .i64 1, .int .i64 1]) (.agg #[.int .i64 2, .int .i64 2, .int .i64 1, .int .i64 1])).run Try.prog w = .ok true w := fun _ => by kernel_rfl
  go_wp2
  go_ret
  exact ⟨rfl, HB8.out⟩
end Go.Proofs.Ytfbiejkdeadheaa
