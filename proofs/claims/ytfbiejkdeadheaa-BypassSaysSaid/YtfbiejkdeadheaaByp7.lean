/- Layer 14: the walk of BypassSays. -/
import Derived.Test.YtfbiejkdeadheaaByp6
import Derived.Deep.RegionHeld3
namespace Go.Proofs.Ytfbiejkdeadheaa
open Go.RowKit Go.Maps

theorem worstTo_ge (l : List (Int × Int)) : ∀ (k j : Nat) (x : Int × Int), j < k → l[j]? = some x → x.1 ≤ (worstTo l k).1 ∧ x.2 ≤ (worstTo l k).2
  | 0, j, x, h, _ => by omega
  | k + 1, j, x, h, hx => by
    by_cases hjk : j = k
    · subst hjk
      rw [worstTo_succ l j x hx]
      unfold maxP
      constructor <;> (simp only; split <;> omega)
    · have ih := worstTo_ge l k j x (by omega) hx
      unfold worstTo
      split
      · rename_i y hy
        unfold maxP
        constructor <;> (simp only; split <;> omega)
      · exact ih
theorem worstTo_at1 (l : List (Int × Int)) : ∀ k : Nat, (worstTo l k).1 = 0 ∨ ∃ j x, j < k ∧ l[j]? = some x ∧ x.1 = (worstTo l k).1
  | 0 => .inl rfl
  | k + 1 => by
    have ih := worstTo_at1 l k
    unfold worstTo
    split
    · rename_i y hy
      unfold maxP
      simp only
      split
      · exact .inr ⟨k, y, by omega, hy, rfl⟩
      · rcases ih with ih | ⟨j, x, hj, hx, e⟩
        · exact .inl ih
        · exact .inr ⟨j, x, by omega, hx, e⟩
    · rcases ih with ih | ⟨j, x, hj, hx, e⟩
      · exact .inl ih
      · exact .inr ⟨j, x, by omega, hx, e⟩
theorem worstTo_at2 (l : List (Int × Int)) : ∀ k : Nat, (worstTo l k).2 = 0 ∨ ∃ j x, j < k ∧ l[j]? = some x ∧ x.2 = (worstTo l k).2
  | 0 => .inl rfl
  | k + 1 => by
    have ih := worstTo_at2 l k
    unfold worstTo
    split
    · rename_i y hy
      unfold maxP
      simp only
      split
      · exact .inr ⟨k, y, by omega, hy, rfl⟩
      · rcases ih with ih | ⟨j, x, hj, hx, e⟩
        · exact .inl ih
        · exact .inr ⟨j, x, by omega, hx, e⟩
    · rcases ih with ih | ⟨j, x, hj, hx, e⟩
      · exact .inl ih
      · exact .inr ⟨j, x, by omega, hx, e⟩
def eq1 (W : Int × Int) (x : Int × Int) : Bool := x.1 == W.1
def eq2 (W : Int × Int) (x : Int × Int) : Bool := x.2 == W.2
theorem worst_met (l : List (Int × Int)) (hl : 0 < l.length) (h0 : ∀ x ∈ l, 0 ≤ x.1 ∧ 0 ≤ x.2) : l.any (eq1 (worstTo l l.length)) = true ∧ l.any (eq2 (worstTo l l.length)) = true := by
  obtain ⟨y, hy⟩ := getElem?_lt hl
  have hym := List.mem_of_getElem? hy
  have g := worstTo_ge l l.length 0 y hl hy
  have n := h0 y hym
  constructor
  · rw [List.any_eq_true]
    rcases worstTo_at1 l l.length with h | ⟨j, x, _, hx, e⟩
    · exact ⟨y, hym, by unfold eq1; rw [beq_iff_eq]; omega⟩
    · exact ⟨x, List.mem_of_getElem? hx, by unfold eq1; rw [beq_iff_eq]; exact e⟩
  · rw [List.any_eq_true]
    rcases worstTo_at2 l l.length with h | ⟨j, x, _, hx, e⟩
    · exact ⟨y, hym, by unfold eq2; rw [beq_iff_eq]; omega⟩
    · exact ⟨x, List.mem_of_getElem? hx, by unfold eq2; rw [beq_iff_eq]; exact e⟩
theorem passL_nonneg (ns : List Int) (l : List Ev) : ∀ x ∈ passL ns l, 0 ≤ x.1 ∧ 0 ≤ x.2 := by
  intro x hx
  unfold passL at hx
  rw [List.mem_map] at hx
  obtain ⟨s, _, rfl⟩ := hx
  unfold passOf fromL
  have := fromTo_le ns s.thread s.ask (endS l s) l l.length
  omega

theorem rfrom_call (w : World) (vn ve : Value) (ns : List Int) (l : List Ev) (t a b : Int) (p : Int × Int) (hp : p = fromL ns t a b l) (hn : RdL w vn 1 encI ns) (he : RdL w ve 4 encE l) (hlen : l.length ≤ 60000) :
    Calls Try.prog 25 #[vn, .int .i64 t, .int .i64 a, .int .i64 b, ve] w (FromPost w p) := by subst hp; exact rfrom_any w vn ve ns l t a b hn he hlen

theorem long_ns (w : World) (An : Option Addr) (nn cn : Nat) (ve : Value) (n0 n1 n2 : Int) (h : 20 < nn) (h2 : nn ≤ 9223372036854775807) :
    Calls Try.prog 4 #[.slice An nn cn, ve, .agg #[.int .i64 n0, .int .i64 n1, .int .i64 n2]] w fun e w' => e = .returned (.bool true) ∧ Below w.heap.size w w' := by
  go_enter Try.func4, Try.ntmps4
  go_wp2_with fail
  refine (awake14 _).mono ?_
  rintro en w1 ⟨rfl, hb⟩
  go_wp2
  go_ret
  exact ⟨rfl, ((Below.refl _ _).alloc (Nat.le_refl _) _).trans (hb.mono (by simp))⟩
theorem long_l (w : World) (An : Option Addr) (nn cn : Nat) (A : Option Addr) (m c : Nat) (n0 n1 n2 : Int) (h : nn ≤ 20) (h1 : 60 < m) (h2 : m ≤ 9223372036854775807) :
    Calls Try.prog 4 #[.slice An nn cn, .slice A m c, .agg #[.int .i64 n0, .int .i64 n1, .int .i64 n2]] w fun e w' => e = .returned (.bool true) ∧ Below w.heap.size w w' := by
  have h' : ¬ 20 < (nn : Int) := by omega
  go_enter Try.func4, Try.ntmps4
  go_wp2_with fail
  refine (awake14 _).mono ?_
  rintro en w1 ⟨rfl, hb⟩
  go_wp2
  go_ret
  exact ⟨rfl, ((Below.refl _ _).alloc (Nat.le_refl _) _).trans (hb.mono (by simp))⟩

set_option maxRecDepth 100000 in
set_option maxHeartbeats 4000000 in
theorem says14 (w : World) (vn ve : Value) (ns : List Int) (l : List Ev) (n0 n1 n2 : Int) (hn : RdL w vn 1 encI ns) (he : RdL w ve 4 encE l) (hwf : ∀ e ∈ l, wfE e) (hn20 : ns.length ≤ 20) (hl60 : l.length ≤ 60) :
    Calls Try.prog 4 #[vn, ve, .agg #[.int .i64 n0, .int .i64 n1, .int .i64 n2]] w fun e w' => e = .returned (.bool true) ∧ Below w.heap.size w w' := by
  obtain ⟨An, cn, rfl, m1, m2, nr⟩ := hn
  have HN : Hid (RdL w (.slice An ns.length cn) 1 encI ns) := Lib.hid ⟨An, cn, rfl, m1, m2, nr⟩
  obtain ⟨A, cap, rfl, l1, l2, hr⟩ := he
  have HR : Hid (RdL w (.slice A l.length cap) 4 encE l) := Lib.hid ⟨A, cap, rfl, l1, l2, hr⟩
  have HW := Lib.hid hwf
  clear nr hr m1 m2 hwf
  obtain ⟨pl, hpl⟩ : ∃ pl, pl = passL ns l := ⟨_, rfl⟩
  have hpll : pl.length ≤ 60 := by rw [hpl]; unfold passL; rw [List.length_map]; have := tallyL_len l; omega
  obtain ⟨pf, hpf⟩ : ∃ pf, pf = fromL ns n0 n1 n2 l := ⟨_, rfl⟩
  have HPL := Lib.hid hpl
  have HPF := Lib.hid hpf
  clear hpl hpf
  go_enter Try.func4, Try.ntmps4
  go_wp2_with fail
  refine (bypassOf_any _ _ _ ns l (HN.out.alloc _) (HR.out.alloc _) HW.out (by omega)).mono ?_
  rintro en w1 ⟨v1, rfl, r1, b1⟩
  rw [← HPL.out] at r1
  obtain ⟨A1, c1, rfl, p1, p2, p3⟩ := r1
  have R1 : Hid (RdL w1 (.slice A1 pl.length c1) 2 encP pl) := Lib.hid ⟨A1, c1, rfl, p1, p2, p3⟩
  have hB1 : Below (w.heap.size + 1) (w.alloc (.cells #[.int .i64 n0, .int .i64 n1, .int .i64 n2] 40)) w1 := by simpa using b1
  have hq0 : Blk w1 w.heap.size 40 #[.int .i64 n0, .int .i64 n1, .int .i64 n2] := (Blk.new' _ _ _ rfl).below hB1 (by omega)
  have hs1 : w.heap.size + 1 ≤ w1.heap.size := by have := b1.size; simpa using this
  have hbw : Below w.heap.size w w1 := ((Below.refl _ _).alloc (Nat.le_refl _) _).trans (hB1.mono (by omega))
  have d0 : w1.cell? ⟨w.heap.size, 0, none⟩ = _ := hq0.cell 0
  have d1 : w1.cell? ⟨w.heap.size, 1, none⟩ = _ := hq0.cell 1
  have d2 : w1.cell? ⟨w.heap.size, 2, none⟩ = _ := hq0.cell 2
  simp only [List.getElem?_toArray, List.getElem?_cons_zero, List.getElem?_cons_succ] at d0 d1 d2
  have HQ0 := Lib.hid hq0
  have HBW := Lib.hid hbw
  have HKS : Hid (∀ W, Below w1.heap.size w1 W → W.cell? ⟨w.heap.size, 0, none⟩ = some (.int .i64 n0) ∧ W.cell? ⟨w.heap.size, 1, none⟩ = some (.int .i64 n1) ∧ W.cell? ⟨w.heap.size, 2, none⟩ = some (.int .i64 n2)) :=
    Lib.hid fun W hb => ⟨(hq0.below hb hq0.lt).cell 0, (hq0.below hb hq0.lt).cell 1, (hq0.below hb hq0.lt).cell 2⟩
  clear b1 hB1 hq0 hbw p1 p2 p3
  go_wp2_with fail
  go_region_held3 (fun W => W.cell? ⟨w.heap.size, 0, none⟩ = some (.int .i64 n0) ∧ W.cell? ⟨w.heap.size, 1, none⟩ = some (.int .i64 n1) ∧ W.cell? ⟨w.heap.size, 2, none⟩ = some (.int .i64 n2))
    (first | exact ⟨d0, d1, d2⟩ | exact HKS.out _ k2 | exact HKS.out _ k3 | exact HKS.out _ k4 | exact HKS.out _ k5)
    (first
      | (go_at_call 23; go_loud (refine (rbypassOf_any _ _ _ ns l (by exact HN.out.below HBW.out.drew (Nat.le_refl _)) (by exact HR.out.below HBW.out.drew (Nat.le_refl _)) (by omega)).mono ?_); rintro en w2 ⟨v2, rfl, r2, b2⟩; have k2 : Below w1.heap.size w1 w2 := by exact ⟨b2.os, b2.tape, b2.output, b2.size, b2.block⟩)
      | (go_at_call 22; go_loud (refine (samePass_true _ _ _ pl pl rfl (by exact R1.out.below k2 (Nat.le_refl _)) (by rw [HPL.out]; exact r2)).mono ?_); rintro en w3 ⟨rfl, q3⟩; have k3 : Below w1.heap.size w1 w3 := k2.trans (q3.below _))
      | (go_at_call 24; go_loud (refine (from_call _ _ _ ns l n0 n1 n2 pf HPF.out (by exact HN.out.below (HBW.out.trans (k3.mono (by omega))) (Nat.le_refl _)) (by exact HR.out.below (HBW.out.trans (k3.mono (by omega))) (Nat.le_refl _)) (by omega)).mono ?_); rintro en w4 ⟨rfl, b4⟩; have k4 : Below w1.heap.size w1 w4 := k3.trans (b4.mono k3.size))
      | (go_at_call 25; go_loud (refine (rfrom_call _ _ _ ns l n0 n1 n2 pf HPF.out (by exact HN.out.below (HBW.out.trans (k4.mono (by omega))) (Nat.le_refl _)) (by exact HR.out.below (HBW.out.trans (k4.mono (by omega))) (Nat.le_refl _)) (by omega)).mono ?_); rintro en w5 ⟨rfl, b5⟩; have k5 : Below w1.heap.size w1 w5 := k4.trans (b5.mono k4.size)))
  have hs5 := k5.size
  have HK5 := Lib.hid k5
  have HBW5 := Lib.hid (HBW.out.trans (k5.mono (by omega)))
  have HR5 := Lib.hid (R1.out.below k5 (Nat.le_refl _))
  obtain ⟨W, hW⟩ : ∃ W, W = worstTo pl pl.length := ⟨_, rfl⟩
  have HWD := Lib.hid hW
  clear hW r2 b2 k2 q3 k3 b4 k4 b5 k5 d0 d1 d2 hs1
  go_wp2_with fail
  refine (worst_call _ _ pl W HWD.out HR5.out).mono ?_
  rintro en w6 ⟨rfl, b6⟩
  have hs6 := b6.size
  have HR6 : Hid (RdL (w6.alloc (.cells #[.int .i64 W.1, .int .i64 W.2] 46)) (.slice A1 pl.length c1) 2 encP pl) := Lib.hid ((HR5.out.below b6 (Nat.le_refl _)).alloc _)
  have HB6 : Hid (Below w.heap.size w (w6.alloc (.cells #[.int .i64 W.1, .int .i64 W.2] 46))) := Lib.hid ((HBW5.out.trans (b6.mono HBW5.out.size)).alloc (Nat.le_trans HBW5.out.size hs6) _)
  clear b6
  go_wp2_with fail
  have e0 : (w6.alloc (.cells #[.int .i64 W.1, .int .i64 W.2] 46)).cell? ⟨w6.heap.size, 0, none⟩ = some (.int .i64 W.1) := World.cell?_alloc_at _ _ _ _ rfl
  have e1 : (w6.alloc (.cells #[.int .i64 W.1, .int .i64 W.2] 46)).cell? ⟨w6.heap.size, 1, none⟩ = some (.int .i64 W.2) := World.cell?_alloc_at _ _ _ _ rfl
  generalize hV : w6.alloc (.cells #[.int .i64 W.1, .int .i64 W.2] 46) = V at HR6 HB6 e0 e1 ⊢
  clear hV hs6 hs5
  go_loopw [9, 10, 11] (fun f g i w' => ∃ k n : Nat, k ≤ pl.length ∧ i = .int .i64 k ∧ f = .bool ((pl.take k).any (eq1 W)) ∧ g = .bool ((pl.take k).any (eq2 W)) ∧ w' = V.drewN n) (fun _ _ i _ => pl.length - (intOf i).toNat)
  case atStart => exact ⟨0, 0, by omega, rfl, rfl, rfl, rfl⟩
  case round =>
    obtain ⟨k, n, hk, rfl, hf, hg, rfl⟩ := hrel
    by_cases hlt : k < pl.length
    · obtain ⟨A2, c2, hv2, m1, m2, hrr⟩ := HR6.out
      obtain ⟨bs, os, hA, hbs, hcs⟩ := hrr (by omega)
      injection hv2 with hv1 hv2 hv3
      subst hv1
      subst hA
      obtain ⟨x, hx⟩ := getElem?_lt hlt
      have d0 := hcs k x hx 0 _ rfl
      have d1 := hcs k x hx 1 _ rfl
      simp only [Nat.add_zero] at d0
      have g1 : x.1 ≤ W.1 ∧ x.2 ≤ W.2 := by rw [HWD.out]; exact worstTo_ge pl pl.length k x hlt hx
      obtain ⟨g1, g2⟩ := g1
      have t1 : decide (W.1 < x.1) = false := by simp; omega
      have t2 : decide (W.2 < x.2) = false := by simp; omega
      have ha1 := any_take_succ (p := eq1 W) hx
      have ha2 := any_take_succ (p := eq2 W) hx
      obtain ⟨sf, hsf⟩ : ∃ sf, sf = (pl.take k).any (eq1 W) := ⟨_, rfl⟩
      obtain ⟨sg, hsg⟩ : ∃ sg, sg = (pl.take k).any (eq2 W) := ⟨_, rfl⟩
      rw [← hsf] at ha1 hf
      rw [← hsg] at ha2 hg
      have HA := Lib.hid (And.intro ha1 ha2)
      clear hrr hcs hx hv2 hv3 m1 m2 ha1 ha2 hsf hsg
      subst hf
      subst hg
      cases hq1 : eq1 W x
      all_goals cases hq2 : eq2 W x
      all_goals cases sf
      all_goals cases sg
      all_goals
        have HQ := Lib.hid (And.intro hq1 hq2)
        unfold eq1 at hq1
        unfold eq2 at hq2
        go_wp2
        go_quiet (fail)
        go_wp2
        go_quiet (fail)
        go_wp2
        go_quiet (fail)
        go_wp2
        go_roundw
        case rel => exact ⟨k + 1, _, by omega, by go_num, by rw [HA.out.1, HQ.out.1]; rfl, by rw [HA.out.2, HQ.out.2]; rfl, rfl⟩
        case measure => simp [intOf]; omega
    · obtain rfl : k = pl.length := by omega
      rw [List.take_length] at hf hg
      by_cases h0 : pl.length = 0
      · have hnil : pl = [] := List.eq_nil_of_length_eq_zero h0
        have hw0 : W = (0, 0) := by rw [HWD.out, hnil]; rfl
        rw [hw0] at e0 e1
        have b0 : ((pl.length : Int) == 0) = true := by rw [h0]; rfl
        clear hnil hw0 h0 HR6 HR5 R1 hf hg
        go_wp2_with fail
        refine (awake14 _).mono ?_
        rintro en w7 ⟨rfl, b7⟩
        go_wp2
        go_ret
        exact ⟨rfl, (below_drewN HB6.out n).trans (b7.mono HB6.out.size)⟩
      · have b0 : ((pl.length : Int) == 0) = false := by rw [beq_eq_false_iff_ne]; omega
        have hm := worst_met pl (by omega) (by rw [HPL.out]; exact passL_nonneg ns l)
        rw [← HWD.out] at hm
        rw [hm.1] at hf
        rw [hm.2] at hg
        clear hm h0
        subst hf
        subst hg
        go_wp2_with fail
        refine (awake14 _).mono ?_
        rintro en w7 ⟨rfl, b7⟩
        go_wp2
        go_ret
        exact ⟨rfl, (below_drewN HB6.out n).trans (b7.mono HB6.out.size)⟩
end Go.Proofs.Ytfbiejkdeadheaa
