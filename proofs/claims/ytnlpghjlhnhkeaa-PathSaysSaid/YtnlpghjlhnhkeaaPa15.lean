/- Layer 7, the document's: Has, Node, Slot, Mates. -/
import Derived.Test.YtnlpghjlhnhkeaaPa11
import Derived.Test.YtnlpghjlhnhkeaaTop9
import Derived.Deep.RegionHeld3
namespace Go.Proofs.Ytnlpghjlhnhkeaa
open Go.RowKit

/-- a topology's two lists -/
structure TopoAt (w : World) (vP vT : Value) (P T : List Int) : Prop where
  p : RdL w vP 1 encI P
  t : RdL w vT 1 encI T
  ok : chkT P T = 0
theorem TopoAt.below {w w' : World} {vP vT : Value} {P T : List Int} {B : Nat} (h : TopoAt w vP vT P T) (k : Below B w w') (hB : w.heap.size ≤ B) : TopoAt w' vP vT P T := ⟨h.p.below k hB, h.t.below k hB, h.ok⟩
theorem rhas_any (w : World) (vP vT : Value) (P T : List Int) (i : Int) (r : Bool) (hr : hasB T i = r) (h : TopoAt w vP vT P T) :
    Calls Try.prog 47 #[.agg #[vP, vT], .int .i64 i] w fun e w' => e = .returned (.bool r) ∧ Below w.heap.size w w' := by
  obtain ⟨AP, cP, rfl, lP1, lP2⟩ := rdl_form h.p
  obtain ⟨AT, cT, rfl, lT1, lT2⟩ := rdl_form h.t
  have HR := Lib.hid hr
  clear h hr
  by_cases h0 : 0 ≤ i
  · obtain ⟨k, rfl⟩ := Int.eq_ofNat_of_zero_le h0
    cases hk : decide (k < T.length)
    · have hE : Hid (false = r) := Lib.hid (by rw [← HR.out]; unfold hasB; symm; apply decide_eq_false; have := of_decide_eq_false hk; omega)
      have hk2 : decide ((k : Int) < (T.length : Int)) = false := by rw [← hk]; simp
      go_enter Try.func47, Try.ntmps47
      go_wp2
      go_ret
      exact ⟨ret_bool hE.out, (Below.refl _ _).alloc (Nat.le_refl _) _⟩
    · have hE : Hid (true = r) := Lib.hid (by rw [← HR.out]; unfold hasB; symm; apply decide_eq_true; have := of_decide_eq_true hk; omega)
      have hk2 : decide ((k : Int) < (T.length : Int)) = true := by rw [← hk]; simp
      go_enter Try.func47, Try.ntmps47
      go_wp2
      go_ret
      exact ⟨ret_bool hE.out, (Below.refl _ _).alloc (Nat.le_refl _) _⟩
  · have hE : Hid (false = r) := Lib.hid (by rw [← HR.out]; unfold hasB; symm; apply decide_eq_false; omega)
    go_enter Try.func47, Try.ntmps47
    go_wp2
    go_ret
    exact ⟨ret_bool hE.out, (Below.refl _ _).alloc (Nat.le_refl _) _⟩
theorem lvs_ok {P T : List Int} (h : chkT P T = 0) : lvsT P T = leavesL P := by unfold lvsT; rw [if_pos h]
set_option maxRecDepth 100000 in
set_option maxHeartbeats 1000000 in
theorem rnode_any (w : World) (vP vT : Value) (P T : List Int) (i : Int) (h : TopoAt w vP vT P T) :
    Calls Try.prog 19 #[.agg #[vP, vT], .int .i64 i] w fun e w' => e = .returned (.int .i64 (nodeI P T i)) ∧ Below w.heap.size w w' := by
  have hm := many_lt (chk_ok h.ok).1
  have hb0 : Below w.heap.size w (w.alloc (.cells #[vP, vT] 24)) := (Below.refl _ _).alloc (Nat.le_refl _) _
  have HB0 := Lib.hid hb0
  have hbx : w.heap.size < (w.alloc (.cells #[vP, vT] 24)).heap.size := by simp
  cases hh : hasB T i
  · have HH := Lib.hid (rhas_any (w.alloc (.cells #[vP, vT] 24)) vP vT P T i false hh (h.below hb0 (Nat.le_refl _)))
    have HE : Hid (nodeI P T i = -1) := Lib.hid (by unfold nodeI; rw [hh]; rfl)
    obtain ⟨AP, cP, rfl, lP1, lP2⟩ := rdl_form h.p
    obtain ⟨AT, cT, rfl, lT1, lT2⟩ := rdl_form h.t
    clear h hh hb0
    go_enter Try.func19, Try.ntmps19
    go_wp2_with fail
    refine HH.out.mono ?_
    rintro en w1 ⟨rfl, b1⟩
    have H1 := Lib.hid (HB0.out.trans (b1.mono HB0.out.size))
    clear b1
    go_wp2
    go_ret
    exact ⟨ret_int HE.out.symm, H1.out⟩
  · obtain ⟨ki, rfl, hki⟩ := has_nat hh
    obtain ⟨x, hx⟩ := getElem?_lt hki
    have HE : Hid (nodeI P T ki = idxI (leavesL P) x) := Lib.hid (by unfold nodeI; rw [hh]; simp [hx])
    have HM := Lib.hid (thr_mem (chk_ok h.ok).2.2.2 hx)
    have HH := Lib.hid (rhas_any (w.alloc (.cells #[vP, vT] 24)) vP vT P T ki true hh (h.below hb0 (Nat.le_refl _)))
    have HL := Lib.hid (fun W (k : Below w.heap.size w W) => rleaves_any W vP vT P T (h.p.below k (Nat.le_refl _)) (h.t.below k (Nat.le_refl _)))
    rw [lvs_ok h.ok] at HL
    have hll : (leavesL P).length ≤ 32 := by have := leavesTo_len P P.length; show (leavesTo P P.length).length ≤ _; omega
    have HT := Lib.hid h.t
    have HX := Lib.hid hx
    obtain ⟨AP, cP, rfl, lP1, lP2⟩ := rdl_form h.p
    obtain ⟨AT, cT, rfl, lT1, lT2⟩ := rdl_form h.t
    have HC := Lib.hid (show (w.alloc (.cells #[.slice AP P.length cP, .slice AT T.length cT] 24)).cell? ⟨w.heap.size, 0, none⟩ = some (.slice AP P.length cP) ∧ (w.alloc (.cells #[.slice AP P.length cP, .slice AT T.length cT] 24)).cell? ⟨w.heap.size, 1, none⟩ = some (.slice AT T.length cT) by simp [World.cell?_alloc_new])
    clear h hh hb0 hx
    go_enter Try.func19, Try.ntmps19
    go_wp2_with fail
    refine HH.out.mono ?_
    rintro en w1 ⟨rfl, b1⟩
    have H1 := Lib.hid (HB0.out.trans (b1.mono HB0.out.size))
    have HK1 := Lib.hid b1
    have x0 := (b1.cell (p := ⟨w.heap.size, 0, none⟩) hbx).trans HC.out.1
    have x1 := (b1.cell (p := ⟨w.heap.size, 1, none⟩) hbx).trans HC.out.2
    clear b1
    go_wp2_with fail
    refine (HL.out _ H1.out).mono ?_
    rintro en w2 ⟨v2, rfl, ho, b2⟩
    have H2 := Lib.hid (H1.out.trans (b2.mono H1.out.size))
    have hs1 := HK1.out.size
    simp at hs1
    have y1 := (b2.cell (p := ⟨w.heap.size, 1, none⟩) (show w.heap.size < w1.heap.size by omega)).trans x1
    have HR2 := Lib.hid (own_rdl ho (by omega))
    obtain ⟨A2, c2, rfl⟩ := own_form ho
    obtain ⟨bT, oT, hAT, _, hcT⟩ := rdl_int (HT.out.below H2.out (Nat.le_refl _)) (by omega)
    have z1 := hcT ki x HX.out
    subst hAT
    clear x0 x1 b2 ho hcT
    go_wp2
    go_loopw [6] (fun s wr => ∃ k n : Nat, s = .int .i64 k ∧ k ≤ (leavesL P).length ∧ wr = w2.drewN n ∧ x ∉ (leavesL P).take k) (fun s _ => (leavesL P).length - (intOf s).toNat)
    case atStart => exact ⟨0, 0, rfl, by omega, rfl, by simp⟩
    case round =>
      obtain ⟨k, n, rfl, hk, rfl, hn⟩ := hrel
      have HN := Lib.hid hn
      clear hn
      by_cases hlt : k < (leavesL P).length
      · obtain ⟨y, hy⟩ := getElem?_lt hlt
        obtain ⟨b3, o3, rfl, _, hc3⟩ := rdl_int HR2.out (by omega)
        have c0 := hc3 k y hy
        have HY := Lib.hid hy
        clear hc3 hy
        cases hxy : (y == x)
        · have hne : Hid (x ∉ (leavesL P).take (k + 1)) := Lib.hid (by
            rw [mem_take HY.out]
            rintro (h | h)
            · exact HN.out h
            · rw [h] at hxy; simp at hxy)
          go_wp2
          go_quiet (fail)
          go_wp2
          go_roundw
          case rel => exact ⟨k + 1, n + nq, by go_num, by omega, by first | rfl | rw [World.drewN_drewN], hne.out⟩
          case measure => simp [intOf]; omega
        · have hid : Hid (idxI (leavesL P) x = k) := Lib.hid (by
            have e := beq_iff_eq.1 hxy
            exact idx_hit (by rw [← e]; exact HY.out) HN.out)
          go_wp2
          go_quiet (fail)
          go_wp2
          go_ret
          exact ⟨ret_int (by rw [HE.out, hid.out]), by first | exact below_drewN H2.out _ | exact below_drewN (below_drewN H2.out _) _⟩
      · obtain rfl : k = (leavesL P).length := by omega
        have hF : False := HN.out (by rw [List.take_length]; exact HM.out)
        exact hF.elim
theorem slotOf_take {T : List Int} {i : Nat} {x : Int} (h : T[i]? = some x) : slotOf T i = (((T.take i).count x : Nat) : Int) := by unfold slotOf; rw [getD_of h]
theorem count_take {T : List Int} {k : Nat} {y : Int} (h : T[k]? = some y) (x : Int) : (T.take (k + 1)).count x = (T.take k).count x + if y == x then 1 else 0 := by
  rw [take_succ_of h, List.count_append]
  simp [List.count_cons]
set_option maxRecDepth 100000 in
set_option maxHeartbeats 1000000 in
theorem rslot_any (w : World) (vP vT : Value) (P T : List Int) (i : Int) (h : TopoAt w vP vT P T) :
    Calls Try.prog 20 #[.agg #[vP, vT], .int .i64 i] w fun e w' => e = .returned (.int .i64 (slotI T i)) ∧ Below w.heap.size w w' := by
  have hm := many_lt (chk_ok h.ok).1
  have hb0 : Below w.heap.size w (w.alloc (.cells #[vP, vT] 24)) := (Below.refl _ _).alloc (Nat.le_refl _) _
  have HB0 := Lib.hid hb0
  have hbx : w.heap.size < (w.alloc (.cells #[vP, vT] 24)).heap.size := by simp
  cases hh : hasB T i
  · have HH := Lib.hid (rhas_any (w.alloc (.cells #[vP, vT] 24)) vP vT P T i false hh (h.below hb0 (Nat.le_refl _)))
    have HE : Hid (slotI T i = -1) := Lib.hid (by unfold slotI; rw [hh]; rfl)
    obtain ⟨AP, cP, rfl, lP1, lP2⟩ := rdl_form h.p
    obtain ⟨AT, cT, rfl, lT1, lT2⟩ := rdl_form h.t
    clear h hh hb0
    go_enter Try.func20, Try.ntmps20
    go_wp2_with fail
    refine HH.out.mono ?_
    rintro en w1 ⟨rfl, b1⟩
    have H1 := Lib.hid (HB0.out.trans (b1.mono HB0.out.size))
    clear b1
    go_wp2
    go_ret
    exact ⟨ret_int HE.out.symm, H1.out⟩
  · obtain ⟨ki, rfl, hki⟩ := has_nat hh
    obtain ⟨x, hx⟩ := getElem?_lt hki
    have HE : Hid (slotI T ki = (((T.take ki).count x : Nat) : Int)) := Lib.hid (by unfold slotI; rw [hh]; simp [slotOf_take hx])
    have HH := Lib.hid (rhas_any (w.alloc (.cells #[vP, vT] 24)) vP vT P T ki true hh (h.below hb0 (Nat.le_refl _)))
    have HT := Lib.hid h.t
    have HX := Lib.hid hx
    obtain ⟨AP, cP, rfl, lP1, lP2⟩ := rdl_form h.p
    obtain ⟨AT, cT, rfl, lT1, lT2⟩ := rdl_form h.t
    have HC := Lib.hid (show (w.alloc (.cells #[.slice AP P.length cP, .slice AT T.length cT] 24)).cell? ⟨w.heap.size, 0, none⟩ = some (.slice AP P.length cP) ∧ (w.alloc (.cells #[.slice AP P.length cP, .slice AT T.length cT] 24)).cell? ⟨w.heap.size, 1, none⟩ = some (.slice AT T.length cT) by simp [World.cell?_alloc_new])
    clear h hh hb0 hx
    go_enter Try.func20, Try.ntmps20
    go_wp2_with fail
    refine HH.out.mono ?_
    rintro en w1 ⟨rfl, b1⟩
    have H1 := Lib.hid (HB0.out.trans (b1.mono HB0.out.size))
    have x1 := (b1.cell (p := ⟨w.heap.size, 1, none⟩) hbx).trans HC.out.2
    obtain ⟨bT, oT, hAT, _, hcT⟩ := rdl_int (HT.out.below H1.out (Nat.le_refl _)) (by omega)
    have z1 := hcT ki x HX.out
    have HCT := Lib.hid hcT
    subst hAT
    clear b1 hcT
    go_wp2
    go_loopw [5, 6] (fun c s wr => ∃ k n : Nat, s = .int .i64 k ∧ k ≤ ki ∧ wr = w1.drewN n ∧ c = .int .i64 (((T.take k).count x : Nat) : Int)) (fun _ s _ => ki - (intOf s).toNat)
    case atStart => exact ⟨0, 0, rfl, by omega, rfl, by simp⟩
    case round =>
      obtain ⟨k, n, rfl, hk, rfl, rfl⟩ := hrel
      have hcl : (T.take k).count x ≤ 32 := by have := List.count_le_length (a := x) (l := T.take k); have := List.length_take_le k T; omega
      by_cases hlt : k < ki
      · obtain ⟨y, hy⟩ := getElem?_lt (show k < T.length by omega)
        have c0 := HCT.out k y hy
        have HY := Lib.hid (count_take hy x)
        clear hy
        cases hxy : (y == x)
        · have hz : Hid (((T.take (k + 1)).count x : Nat) = ((T.take k).count x : Nat)) := Lib.hid (by rw [HY.out, hxy]; simp)
          go_wp2
          go_quiet (fail)
          go_wp2
          go_roundw
          case rel => exact ⟨k + 1, n + nq, by go_num, by omega, by first | rfl | rw [World.drewN_drewN], by rw [hz.out]⟩
          case measure => simp [intOf]; omega
        · have hz : Hid (((T.take (k + 1)).count x : Nat) = ((T.take k).count x : Nat) + 1) := Lib.hid (by rw [HY.out, hxy]; simp)
          go_wp2
          go_quiet (fail)
          go_wp2
          go_roundw
          case rel => exact ⟨k + 1, n + nq, by go_num, by omega, by first | rfl | rw [World.drewN_drewN], by rw [hz.out]; go_num⟩
          case measure => simp [intOf]; omega
      · obtain rfl : k = ki := by omega
        go_wp2
        go_ret
        exact ⟨ret_int HE.out.symm, below_drewN H1.out _⟩
/-- how many threads stand at a node, among the first k -/
def mateC (P T : List Int) (n : Int) (k : Nat) : Nat := ((T.take k).filter fun x => idxI (leavesL P) x == n).length
theorem mateC_succ {P T : List Int} {n : Int} {k : Nat} {x : Int} (h : T[k]? = some x) : mateC P T n (k + 1) = mateC P T n k + if idxI (leavesL P) x == n then 1 else 0 := by
  unfold mateC
  rw [take_succ_of h, List.filter_append, List.length_append]
  cases hc : (idxI (leavesL P) x == n)
  · rw [show List.filter (fun x => idxI (leavesL P) x == n) [x] = [] by simp [hc]]; rfl
  · rw [show List.filter (fun x => idxI (leavesL P) x == n) [x] = [x] by simp [hc]]; rfl
theorem mateC_all {P T : List Int} (h : chkT P T = 0) (n : Int) : ((mateC P T n T.length : Nat) : Int) = matesI P T n := by
  unfold mateC matesI
  rw [List.take_length]
  have hmem : ∀ x ∈ T, x ∈ leavesL P := fun x hx => by
    obtain ⟨i, hi⟩ := List.getElem?_of_mem hx
    exact thr_mem (chk_ok h).2.2.2 hi
  split
  · rename_i hn
    obtain ⟨k, rfl⟩ := Int.eq_ofNat_of_zero_le hn.1
    obtain ⟨y, hy⟩ := getElem?_lt (show k < (leavesL P).length by omega)
    rw [Int.toNat_natCast, getD_of hy, List.count_eq_countP, List.countP_eq_length_filter]
    congr 2
    refine List.filter_congr fun x hx => ?_
    have hx' := hmem x hx
    rw [Bool.eq_iff_iff, beq_iff_eq, beq_iff_eq]
    constructor
    · intro e
      have := idx_get hx' e
      rw [hy] at this
      exact (Option.some.inj this).symm
    · rintro rfl
      have hn := leaves_nodup P
      have hk : (leavesL P).idxOf x = k := by
        have hlt := (List.getElem?_eq_some_iff.1 hy).1
        have hg := (List.getElem?_eq_some_iff.1 hy).2
        rw [← hg]
        exact List.Nodup.idxOf_getElem hn k hlt
      unfold idxI
      rw [if_pos hx', hk]
  · rename_i hn
    have : (T.filter fun x => idxI (leavesL P) x == n) = [] := by
      rw [List.filter_eq_nil_iff]
      intro x hx e
      have e' := beq_iff_eq.1 e
      have h3 := idx_nonneg (leavesL P) x
      have h1 := h3.1.2 (hmem x hx)
      omega
    rw [this]; rfl
set_option maxRecDepth 100000 in
set_option maxHeartbeats 1000000 in
theorem rmates_any (w : World) (vP vT : Value) (P T : List Int) (i : Int) (h : TopoAt w vP vT P T) :
    Calls Try.prog 21 #[.agg #[vP, vT], .int .i64 i] w fun e w' => e = .returned (.int .i64 (matesI P T i)) ∧ Below w.heap.size w w' := by
  have hm := many_lt (chk_ok h.ok).1
  have HE := Lib.hid (mateC_all h.ok i)
  have hb0 : Below w.heap.size w (w.alloc (.cells #[vP, vT] 24)) := (Below.refl _ _).alloc (Nat.le_refl _) _
  have HB0 := Lib.hid hb0
  have hbx : w.heap.size < (w.alloc (.cells #[vP, vT] 24)).heap.size := by simp
  have H := Lib.hid h
  obtain ⟨AP, cP, rfl, lP1, lP2⟩ := rdl_form h.p
  obtain ⟨AT, cT, rfl, lT1, lT2⟩ := rdl_form h.t
  have HC := Lib.hid (show (w.alloc (.cells #[.slice AP P.length cP, .slice AT T.length cT] 24)).cell? ⟨w.heap.size, 0, none⟩ = some (.slice AP P.length cP) ∧ (w.alloc (.cells #[.slice AP P.length cP, .slice AT T.length cT] 24)).cell? ⟨w.heap.size, 1, none⟩ = some (.slice AT T.length cT) by simp [World.cell?_alloc_new])
  clear h hb0
  go_enter Try.func21, Try.ntmps21
  go_wp2
  go_loopw [5, 6] (fun c s wr => ∃ k : Nat, s = .int .i64 k ∧ k ≤ T.length ∧ Below (w.heap.size + 1) (w.alloc (.cells #[.slice AP P.length cP, .slice AT T.length cT] 24)) wr ∧ c = .int .i64 ((mateC P T i k : Nat) : Int)) (fun _ s _ => T.length - (intOf s).toNat)
  case atStart => exact ⟨0, rfl, by omega, Below.refl _ _, by simp [mateC]⟩
  case round =>
    obtain ⟨k, rfl, hk, hb, rfl⟩ := hrel
    have hcl : mateC P T i k ≤ 32 := by unfold mateC; have := List.length_filter_le (fun x => idxI (leavesL P) x == i) (T.take k); have := List.length_take_le k T; omega
    obtain ⟨wq, rfl⟩ : ∃ wq : World, wq = wr := ⟨_, rfl⟩
    have HK := Lib.hid hb
    have H2 := Lib.hid (HB0.out.trans (hb.mono (by omega)))
    have x0 := (hb.cell (p := ⟨w.heap.size, 0, none⟩) (show w.heap.size < w.heap.size + 1 by omega)).trans HC.out.1
    have x1 := (hb.cell (p := ⟨w.heap.size, 1, none⟩) (show w.heap.size < w.heap.size + 1 by omega)).trans HC.out.2
    clear hb
    by_cases hlt : k < T.length
    · obtain ⟨y, hy⟩ := getElem?_lt hlt
      have e : nodeI P T k = idxI (leavesL P) y := by
        unfold nodeI
        rw [show hasB T k = true from decide_eq_true (by omega)]
        simp [hy]
      have hn := rnode_any wq _ _ P T k (H.out.below H2.out (Nat.le_refl _))
      rw [e] at hn
      have HN := Lib.hid hn
      have HY := Lib.hid (mateC_succ (P := P) (n := i) hy)
      have hsz := HK.out.size
      clear e hn hy
      cases hxy : (idxI (leavesL P) y == i)
      · have hz : Hid (mateC P T i (k + 1) = mateC P T i k) := Lib.hid (by rw [HY.out, hxy]; simp)
        go_wp2_with fail
        refine HN.out.mono ?_
        rintro en w3 ⟨rfl, b3⟩
        have HK3 := Lib.hid (HK.out.trans (b3.mono (by simp at hsz; omega)))
        clear b3
        go_wp2
        go_roundw
        case rel => exact ⟨k + 1, by go_num, by omega, HK3.out, by rw [hz.out]⟩
        case measure => simp [intOf]; omega
      · have hz : Hid (mateC P T i (k + 1) = mateC P T i k + 1) := Lib.hid (by rw [HY.out, hxy]; simp)
        go_wp2_with fail
        refine HN.out.mono ?_
        rintro en w3 ⟨rfl, b3⟩
        have HK3 := Lib.hid (HK.out.trans (b3.mono (by simp at hsz; omega)))
        clear b3
        go_wp2
        go_roundw
        case rel => exact ⟨k + 1, by go_num, by omega, HK3.out, by rw [hz.out]; go_num⟩
        case measure => simp [intOf]; omega
    · obtain rfl : k = T.length := by omega
      go_wp2
      go_ret
      exact ⟨ret_int HE.out, H2.out⟩
end Go.Proofs.Ytnlpghjlhnhkeaa
