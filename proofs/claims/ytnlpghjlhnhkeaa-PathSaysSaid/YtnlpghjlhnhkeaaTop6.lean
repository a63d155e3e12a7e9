/- Layer 6: topo.Check. -/
import Derived.Test.YtnlpghjlhnhkeaaTop4
import Derived.Test.YtnlpghjlhnhkeaaTop5
import Derived.Test.YtnlpghjlhnhkeaaTurn
import Derived.Deep.RegionHeld3
import Derived.Deep.DeepCutAuto
namespace Go.Proofs.Ytnlpghjlhnhkeaa
open Go.RowKit

theorem rdl_form {α : Type} {enc : α → List Value} {sz : Nat} {w : World} {v : Value} {l : List α} (h : RdL w v sz enc l) : ∃ A c, v = .slice A l.length c ∧ l.length ≤ c ∧ l.length ≤ 140737488355328 := by
  obtain ⟨A, c, h1, h2, h3, _⟩ := h
  exact ⟨A, c, h1, h2, h3⟩
/-- one cell of a list of ints -/
theorem rdl_int {w : World} {A : Option Addr} {n c : Nat} {l : List Int} (h : RdL w (.slice A n c) 1 encI l) (hl : 0 < l.length) :
    ∃ b off, A = some ⟨b, off, none⟩ ∧ b < w.heap.size ∧ ∀ i x, l[i]? = some x → w.cell? ⟨b, off + i, none⟩ = some (.int .i64 x) := by
  obtain ⟨A', c', e, h1, h2, h3⟩ := h
  injection e with e1 e2 e3
  subst e1
  obtain ⟨b, off, q1, q2, q3⟩ := h3 hl
  refine ⟨b, off, q1, q2, fun i x hx => ?_⟩
  have := q3 i x hx 0 _ rfl
  simpa using this
theorem chk_many {P T : List Int} (h : manyB P T = true) : chkT P T = 8 := by unfold chkT; rw [if_pos h]
theorem chk_tree {P T : List Int} (h : manyB P T = false) (h2 : treeB P = false) : chkT P T = 9 := by unfold chkT; rw [h, h2]; rfl
theorem chk_even {P T : List Int} (h : manyB P T = false) (h2 : treeB P = true) (h3 : evenB P = false) : chkT P T = 9 := by unfold chkT; rw [h, h2, h3]; rfl
theorem chk_thr {P T : List Int} (h : manyB P T = false) (h2 : treeB P = true) (h3 : evenB P = true) : chkT P T = if thrB P T then 0 else 4 := by
  unfold chkT; rw [h, h2, h3]
  cases thrB P T <;> rfl
theorem lev_get {P : List Int} {v : Int} (h0 : 0 ≤ v) (h : v < P.length) : (levL P)[v.toNat]? = some ((depL P v : Nat) : Int) := by
  unfold levL
  rw [range_get _ _ _ (by omega)]
  congr 3
  omega
theorem own_below {w w' : World} {base : Nat} {e : TypeId} {sz : Nat} {v : Value} {n : Nat} {xs : List Value} (h : w.ownsRow base e sz v n xs) (k : Below w.heap.size w w') : w'.ownsRow base e sz v n xs :=
  Turns.own h (Turns.of_below (S := []) k) (fun _ _ => by simp)
theorem own_set {w : World} {base : Nat} {e : TypeId} {sz : Nat} {v : Value} {n : Nat} {xs : List Value} (h : w.ownsRow base e sz v n xs) (g : Nat) (u : Value) (hg : ∀ b, v.ownBlock = some b → b ≠ g) : (w.setCell ⟨g, 0, none⟩ u).ownsRow base e sz v n xs :=
  Turns.own h (Turns.setCell (Turns.refl [g] w) (.inl (by simp)) u) (fun b hb => by simpa using hg b hb)
theorem bcell {W w1 : World} (hb : Below W.heap.size W w1) : (∀ b o, b < W.heap.size → w1.cell? ⟨b, o, none⟩ = W.cell? ⟨b, o, none⟩) ∧ (∀ b o, b < W.heap.size → w1.frozen? ⟨b, o, none⟩ = W.frozen? ⟨b, o, none⟩) :=
  ⟨fun b o h => hb.cell (p := ⟨b, o, none⟩) h, fun b o h => hb.frozen (p := ⟨b, o, none⟩) h⟩
set_option maxRecDepth 100000 in
set_option maxHeartbeats 4000000 in
theorem check_any (w : World) (vP vT : Value) (P T : List Int) (hP : RdL w vP 1 encI P) (hT : RdL w vT 1 encI T) :
    Calls Try.prog 37 #[.agg #[vP, vT]] w fun e w' => e = .returned (.int .i64 (chkT P T)) ∧ Below w.heap.size w w' := by
  have HP := Lib.hid hP
  have HT := Lib.hid hT
  obtain ⟨AP, cP, rfl, lP1, lP2⟩ := rdl_form hP
  obtain ⟨AT, cT, rfl, lT1, lT2⟩ := rdl_form hT
  clear hP hT
  have hb0 : Below w.heap.size w (w.alloc (.cells #[.slice AP P.length cP, .slice AT T.length cT] 24)) := (Below.refl _ _).alloc (Nat.le_refl _) _
  have HB0 := Lib.hid hb0
  clear hb0
  go_enter Try.func37, Try.ntmps37
  go_upto_region 1 with fail
  go_quiet (fail)
  have c0 : ((w.alloc (.cells #[.slice AP P.length cP, .slice AT T.length cT] 24)).drewN nq).cell? ⟨w.heap.size, 0, none⟩ = some (.slice AP P.length cP) := by simp [World.cell?_alloc_new]
  have c1 : ((w.alloc (.cells #[.slice AP P.length cP, .slice AT T.length cT] 24)).drewN nq).cell? ⟨w.heap.size, 1, none⟩ = some (.slice AT T.length cT) := by simp [World.cell?_alloc_new]
  have hsz : w.heap.size + 1 ≤ ((w.alloc (.cells #[.slice AP P.length cP, .slice AT T.length cT] 24)).drewN nq).heap.size := by simp [World.drewN]
  have hbb := below_drewN HB0.out nq
  clear HB0
  generalize ((w.alloc (.cells #[.slice AP P.length cP, .slice AT T.length cT] 24)).drewN nq) = wb at *
  have HB := Lib.hid hbb
  have HC := Lib.hid (And.intro c0 c1)
  have HPb := Lib.hid (HP.out.below hbb (Nat.le_refl _))
  have HTb := Lib.hid (HT.out.below hbb (Nat.le_refl _))
  clear hbb HP HT
  by_cases a1 : P.length < 1
  · have HE := Lib.hid (chk_many (P := P) (T := T) (decide_eq_true (.inl a1)))
    go_wp2
    go_ret
    exact ⟨ret_int HE.out.symm, HB.out⟩
  by_cases a2 : 32 < P.length
  · have HE := Lib.hid (chk_many (P := P) (T := T) (decide_eq_true (.inr (.inl a2))))
    go_wp2
    go_ret
    exact ⟨ret_int HE.out.symm, HB.out⟩
  by_cases a3 : T.length < 1
  · have HE := Lib.hid (chk_many (P := P) (T := T) (decide_eq_true (.inr (.inr (.inl a3)))))
    go_wp2
    go_ret
    exact ⟨ret_int HE.out.symm, HB.out⟩
  by_cases a4 : 32 < T.length
  · have HE := Lib.hid (chk_many (P := P) (T := T) (decide_eq_true (.inr (.inr (.inr a4)))))
    go_wp2
    go_ret
    exact ⟨ret_int HE.out.symm, HB.out⟩
  have HM := Lib.hid (show manyB P T = false from decide_eq_false (by omega))
  cases htr : treeB P
  · have HE := Lib.hid (chk_tree HM.out htr)
    have HQ := Lib.hid (tree_any wb _ P HPb.out)
    rw [htr] at HQ
    clear htr
    go_wp2_with (go_at_call 61; refine HQ.out.mono ?_; rintro e w' ⟨rfl, rfl⟩)
    go_ret
    exact ⟨ret_int HE.out.symm, HB.out⟩
  have HQ := Lib.hid (tree_any wb _ P HPb.out)
  rw [htr] at HQ
  have HTR := Lib.hid htr
  clear htr
  have bd : Below wb.heap.size wb wb.drew := (Below.refl _ _).drew
  go_upto_region 4 with fail
  go_wp2_with (go_at_call 61; refine HQ.out.mono ?_; rintro e w' ⟨rfl, rfl⟩)
  go_cut [5, 6] (fun s5 s6 wx => ∃ g v5, s5 = .pointer (some ⟨g, 0, none⟩) ∧ wb.heap.size ≤ g ∧ wx.cell? ⟨g, 0, none⟩ = some v5 ∧ wx.ownsRow wb.heap.size 3 1 v5 (leavesL P).length ((leavesL P).flatMap encI) ∧ wx.ownsRow wb.heap.size 3 1 s6 (levL P).length ((levL P).flatMap encI) ∧ Below wb.heap.size wb wx)
  case first =>
    go_region_held3 (fun W => W.cell? ⟨w.heap.size, 0, none⟩ = some (.slice AP P.length cP))
      (first | exact c0 | exact (bd.cell (p := ⟨w.heap.size, 0, none⟩) (show w.heap.size < wb.heap.size by omega)).trans c0 | exact (k3.cell (p := ⟨w.heap.size, 0, none⟩) (show w.heap.size < wb.heap.size by omega)).trans c0 | exact (k2.cell (p := ⟨w.heap.size, 0, none⟩) (show w.heap.size < wb.heap.size by omega)).trans c0 | exact ((k2.alloc k2.size _).cell (p := ⟨w.heap.size, 0, none⟩) (show w.heap.size < wb.heap.size by omega)).trans c0 | exact (((Below.refl wb.heap.size wb).alloc (Nat.le_refl _) _).cell (p := ⟨w.heap.size, 0, none⟩) (show w.heap.size < wb.heap.size by omega)).trans c0 | exact ((((Below.refl wb.heap.size wb).alloc (Nat.le_refl _) _).drew).cell (p := ⟨w.heap.size, 0, none⟩) (show w.heap.size < wb.heap.size by omega)).trans c0 | exact ((k3.setCell (by first | exact k2.size | exact Nat.le_refl _) _).cell (p := ⟨w.heap.size, 0, none⟩) (show w.heap.size < wb.heap.size by omega)).trans c0 | exact ((k3.alloc k3.size _).cell (p := ⟨w.heap.size, 0, none⟩) (show w.heap.size < wb.heap.size by omega)).trans c0 | (simp [*]; done))
      (first
        | (go_at_call 62; go_loud (refine (leaves_any _ _ P (HPb.out.below (B := wb.heap.size) (by first | exact bd | exact bd.alloc (Nat.le_refl _) _) (Nat.le_refl _)) HTR.out (by omega)).mono ?_); rintro e w2 ⟨v2, rfl, o2, b2⟩; obtain ⟨A2, c2, rfl⟩ := own_form o2; (have k2 : Below wb.heap.size wb w2 := (by first | exact bd.trans (b2.mono (by simp)) | exact (bd.alloc (Nat.le_refl _) _).trans (b2.mono (by simp)))); have hc2 := (bcell b2).1; have hf2 := (bcell b2).2; have O2 := Lib.hid o2; (first | have hz2 : wb.heap.size < w2.heap.size := (by have := b2.size; simp at this; omega) | have hz2 := k2.size))
        | (go_at_call 63; go_loud (refine (levels_any _ _ P (HPb.out.below (B := wb.heap.size) (by first | exact k2 | exact k2.alloc k2.size _ | exact k2.setCell (by simp) _ | exact (k2.alloc k2.size _).setCell (by simp) _) (Nat.le_refl _)) HTR.out (by omega)).mono ?_); rintro e w3 ⟨v3, rfl, o3, b3⟩; have hc3 := (bcell b3).1; have hf3 := (bcell b3).2; have O3 := Lib.hid o3; (have k3 : Below wb.heap.size wb w3 := (by first | exact k2.trans (b3.mono k2.size) | exact (k2.alloc k2.size _).trans (b3.mono (by simp; have := k2.size; omega))))))
    · have hs3 := b3.size
      have e2 := own_lower ((own_below O2.out b3).alloc (.cells #[.slice A2 (leavesL P).length c2] 22)) (b' := wb.heap.size) (by simp)
      have e3 := own_lower (O3.out.alloc (.cells #[.slice A2 (leavesL P).length c2] 22)) (b' := wb.heap.size) k2.size
      have e4 := (k2.trans (b3.mono k2.size)).alloc (Nat.le_trans k2.size b3.size) (.cells #[.slice A2 (leavesL P).length c2] 22)
      have HH := Lib.hid (And.intro e2 (And.intro e3 e4))
      clear e2 e3 e4
      go_wp2_with fail
      go_meet
      case rel => exact ⟨_, _, rfl, Nat.le_trans k2.size hs3, by simp [World.cell?_alloc_new], HH.out.1, HH.out.2.1, HH.out.2.2⟩
    · have hs3 := b3.size
      have e2 := own_lower (own_set (own_below (O2.out.alloc (.cells #[.slice none 0 0] 22)) b3) w2.heap.size (.slice A2 (leavesL P).length c2) (fun b hb => by have := (O2.out.lt b hb).2; omega)) (b' := wb.heap.size) (by simp)
      have e3 := own_lower (own_set O3.out w2.heap.size (.slice A2 (leavesL P).length c2) (fun b hb => by have := (O3.out.lt b hb).1; simp at this; omega)) (b' := wb.heap.size) (by simp; have := k2.size; omega)
      have e4 := ((k2.alloc k2.size (.cells #[.slice none 0 0] 22)).trans (b3.mono (by simp; have := k2.size; omega))).setCell (p := ⟨w2.heap.size, 0, none⟩) k2.size (.slice A2 (leavesL P).length c2)
      have HH := Lib.hid (And.intro e2 (And.intro e3 e4))
      clear e2 e3 e4
      go_wp2_with fail
      go_meet
      case rel => exact ⟨_, _, rfl, k2.size, World.cell?_setCell_same (u := .slice none 0 0) _ _ _ (by rw [hc3 _ _ (by simp)]; simp [World.cell?_alloc_new]), HH.out.1, HH.out.2.1, HH.out.2.2⟩
    · have hs3 := b3.size
      have e2 := own_lower (own_set (own_below O2.out b3) wb.heap.size (.slice A2 (leavesL P).length c2) (fun b hb => by have := (O2.out.lt b hb).1; simp at this; omega)) (b' := wb.heap.size) (by simp)
      have e3 := own_lower (own_set O3.out wb.heap.size (.slice A2 (leavesL P).length c2) (fun b hb => by have := (O3.out.lt b hb).1; omega)) (b' := wb.heap.size) k2.size
      have e4 := (k2.trans (b3.mono k2.size)).setCell (p := ⟨wb.heap.size, 0, none⟩) (Nat.le_refl _) (.slice A2 (leavesL P).length c2)
      have HH := Lib.hid (And.intro e2 (And.intro e3 e4))
      clear e2 e3 e4
      go_wp2_with fail
      go_meet
      case rel => exact ⟨_, _, rfl, Nat.le_refl _, World.cell?_setCell_same (u := .slice none 0 0) _ _ _ (by rw [hc3 _ _ (by omega), hc2 _ _ (by simp)]; simp [World.cell?_alloc_new]), HH.out.1, HH.out.2.1, HH.out.2.2⟩
  case rest =>
    clear HPb HQ bd c0 c1
    obtain ⟨g, v5, rfl, hg, hg5, o5, o6, bc⟩ := hcut
    have hll := leavesTo_len P P.length
    have hl5 : (leavesL P).length ≤ 32 := by show (leavesTo P P.length).length ≤ _; omega
    have hl6 : (levL P).length = P.length := by simp [levL]
    have R5 := own_rdl o5 (by omega)
    have R6 := own_rdl o6 (by omega)
    have HR5 := Lib.hid R5
    obtain ⟨A5, c5, rfl, k5, _⟩ := rdl_form R5
    obtain ⟨A6, c6, rfl, k6, _⟩ := rdl_form R6
    have f0 := (bc.cell (p := ⟨w.heap.size, 0, none⟩) (show w.heap.size < wb.heap.size by omega)).trans HC.out.1
    have f1 := (bc.cell (p := ⟨w.heap.size, 1, none⟩) (show w.heap.size < wb.heap.size by omega)).trans HC.out.2
    have HTc := Lib.hid (HTb.out.below bc (Nat.le_refl _))
    have HBc := Lib.hid (HB.out.trans (bc.mono HB.out.size))
    have H56 := Lib.hid (And.intro R5 R6)
    clear R5 R6 o5 o6 bc HTb HB HC
    go_wp2
    go_loopw [41] (fun i wr => ∃ j m : Nat, i = .int .i64 j ∧ j ≤ (leavesL P).length ∧ evL P ((leavesL P).take j) = true ∧ wr = wc.drewN m) (fun i _ => (leavesL P).length - (intOf i).toNat)
    case atStart => exact ⟨0, 0, rfl, by omega, rfl, rfl⟩
    case round =>
      obtain ⟨j, mm, rfl, hj, hev, rfl⟩ := hrel
      by_cases hjl : j < (leavesL P).length
      · obtain ⟨b5, off5, hA5, hb5, hc5⟩ := rdl_int H56.out.1 (by omega)
        obtain ⟨b6, off6, hA6, hb6, hc6⟩ := rdl_int H56.out.2 (by rw [hl6]; omega)
        subst hA5 hA6
        obtain ⟨x, hx⟩ := getElem?_lt hjl
        obtain ⟨y, hy⟩ := getElem?_lt (show 0 < (leavesL P).length by omega)
        have hxl := mem_leavesTo (P := P) (k := P.length) (List.mem_of_getElem? hx)
        have hyl := mem_leavesTo (P := P) (k := P.length) (List.mem_of_getElem? hy)
        obtain ⟨x, rfl⟩ := Int.eq_ofNat_of_zero_le hxl.2.1
        obtain ⟨y, rfl⟩ := Int.eq_ofNat_of_zero_le hyl.2.1
        have q1 := hc5 j _ hx
        have q2 := hc5 0 _ hy
        have q3 := hc6 x _ (by have := lev_get (P := P) hxl.2.1 hxl.2.2; simpa using this)
        have q4 := hc6 y _ (by have := lev_get (P := P) hyl.2.1 hyl.2.2; simpa using this)
        simp only [Nat.add_zero] at q2
        have hx32 : x < P.length := by have := hxl.2.2; omega
        have hy32 : y < P.length := by have := hyl.2.2; omega
        have htk : (leavesL P).take (j + 1) = (leavesL P).take j ++ [(x : Int)] := take_succ_of hx
        have hhd : ((leavesL P).take j ++ [(x : Int)]).headD 0 = (y : Int) := by
          rw [← htk]
          cases hl : leavesL P with
          | nil => rw [hl] at hy; cases hy
          | cons a l => rw [hl] at hy; simp at hy; simp [hy]
        have hev2 := evL_snoc P ((leavesL P).take j) x
        rw [hev, Bool.true_and, hhd, ← htk] at hev2
        obtain ⟨d, hd⟩ : ∃ d : Int, d = ((depL P x : Nat) : Int) := ⟨_, rfl⟩
        obtain ⟨d0, hd0⟩ : ∃ d : Int, d = ((depL P y : Nat) : Int) := ⟨_, rfl⟩
        rw [← hd] at q3
        rw [← hd0] at q4
        have HV := Lib.hid (And.intro hev2 (And.intro hd hd0))
        have hbd : evL P ((leavesL P).take (j + 1)) = false → evenB P = false := fun h => by
          have := evL_bad (m := (leavesL P).drop (j + 1)) h
          rwa [List.take_append_drop] at this
        have HBD := Lib.hid hbd
        clear hx hy hxl hyl htk hhd hev2 hd hd0 hev hc5 hc6 hbd
        cases e1 : (d != d0)
        · cases e2 : decide (5 < d)
          · have HN := Lib.hid (show evL P ((leavesL P).take (j + 1)) = true from by
              rw [HV.out.1]
              have := HV.out.2
              simp only [bne_eq_false_iff_eq, decide_eq_false_iff_not] at e1 e2
              exact decide_eq_true (by omega))
            go_wp2_with fail
            go_quiet (fail)
            go_wp2
            go_roundw
            case rel => exact ⟨j + 1, _, by go_num, by omega, HN.out, rfl⟩
            case measure => simp [intOf]; omega
          · have HN := Lib.hid (chk_even (T := T) HM.out HTR.out (HBD.out (by
              rw [HV.out.1]
              have := HV.out.2
              simp only [decide_eq_true_eq] at e2
              exact decide_eq_false (by omega))))
            go_wp2_with fail
            go_quiet (fail)
            go_wp2
            go_ret
            exact ⟨ret_int HN.out.symm, below_drewN (below_drewN HBc.out _) _⟩
        · have HN := Lib.hid (chk_even (T := T) HM.out HTR.out (HBD.out (by
            rw [HV.out.1]
            have := HV.out.2
            simp only [bne_iff_ne] at e1
            exact decide_eq_false (by omega))))
          go_wp2_with fail
          go_quiet (fail)
          go_wp2
          go_ret
          exact ⟨ret_int HN.out.symm, below_drewN (below_drewN HBc.out _) _⟩
      · obtain rfl : j = (leavesL P).length := by omega
        rw [List.take_length, ← evenB_eq] at hev
        have HN := Lib.hid (chk_thr (T := T) HM.out HTR.out hev)
        have hcf := containsFunc_any (wc.drewN mm) g _ _ (leavesL P) T (show (wc.drewN mm).cell? ⟨g, 0, none⟩ = _ from hg5) (H56.out.1.drewN mm) (HTc.out.drewN mm)
        rw [thr_any] at hcf
        clear hev
        cases hth : thrB P T
        · rw [hth] at hcf HN
          have HC := Lib.hid hcf
          clear hcf hth
          go_wp2_with (go_at_call 64; refine HC.out.mono ?_; rintro e w' ⟨rfl, rfl⟩)
          go_ret
          exact ⟨ret_int HN.out.symm, below_drewN HBc.out _⟩
        · rw [hth] at hcf HN
          have HC := Lib.hid hcf
          clear hcf hth
          go_wp2_with (go_at_call 64; refine HC.out.mono ?_; rintro e w' ⟨rfl, rfl⟩)
          go_ret
          exact ⟨ret_int HN.out.symm, below_drewN HBc.out _⟩

theorem tleaves_any (w : World) (vP vT : Value) (P T : List Int) (hP : RdL w vP 1 encI P) (hT : RdL w vT 1 encI T) :
    Calls Try.prog 82 #[.agg #[vP, vT]] w fun e w' => ∃ v, e = .returned v ∧ w'.ownsRow w.heap.size 3 1 v (lvsT P T).length ((lvsT P T).flatMap encI) ∧ Below w.heap.size w w' := by
  have hb0 : Below w.heap.size w (w.alloc (.cells #[vP, vT] 24)) := (Below.refl _ _).alloc (Nat.le_refl _) _
  have HC := Lib.hid (check_any (w.alloc (.cells #[vP, vT] 24)) vP vT P T (hP.alloc _) (hT.alloc _))
  have HP := Lib.hid hP
  have HB0 := Lib.hid hb0
  obtain ⟨AP, cP, rfl, lP1, lP2⟩ := rdl_form hP
  obtain ⟨AT, cT, rfl, lT1, lT2⟩ := rdl_form hT
  clear hP hT hb0
  go_enter Try.func82, Try.ntmps82
  by_cases hc : chkT P T = 0
  · have HL := Lib.hid (show lvsT P T = leavesL P from by unfold lvsT; rw [if_pos hc])
    obtain ⟨hm, ht, _, _⟩ := chk_ok hc
    have hml := many_lt hm
    have HT := Lib.hid ht
    rw [hc] at HC
    clear hc hm ht
    go_wp2_with fail
    refine HC.out.mono ?_
    rintro en w1 ⟨rfl, b1⟩
    have hc1 := (bcell b1).1
    have hs1 := b1.size
    simp at hs1
    have HB1 := Lib.hid (HB0.out.trans (b1.mono HB0.out.size))
    clear b1
    go_wp2_with fail
    refine (leaves_any _ _ P (HP.out.below HB1.out (Nat.le_refl _)) HT.out (by omega)).mono ?_
    rintro en w2 ⟨v2, rfl, o2, b2⟩
    have HO := Lib.hid (And.intro o2 b2)
    clear o2 b2
    go_wp2
    go_ret
    exact ⟨_, rfl, by rw [HL.out]; exact own_lower HO.out.1 (by omega), HB1.out.trans (HO.out.2.mono (by omega))⟩
  · have HL := Lib.hid (show lvsT P T = [] from by unfold lvsT; rw [if_neg hc])
    obtain ⟨z, hz⟩ : ∃ z, z = chkT P T := ⟨_, rfl⟩
    rw [← hz] at HC hc
    have hz0 : (z != 0) = true := by simpa using hc
    clear hc hz
    go_wp2_with fail
    refine HC.out.mono ?_
    rintro en w1 ⟨rfl, b1⟩
    have HB1 := Lib.hid (HB0.out.trans (b1.mono HB0.out.size))
    clear b1
    go_wp2
    go_ret
    exact ⟨_, rfl, by rw [HL.out]; exact World.ownsRow_nil _ _ _ _, HB1.out⟩
end Go.Proofs.Ytnlpghjlhnhkeaa
