/- Joined: Top5, Top6, Pa1, Pa3, Pa4, Pa5, Pa6. -/
import Derived.Deep.RegionHeld3
import Derived.Deep.DeepCutAuto
import Derived.Tactics
import Derived.Tactics2
import Derived.Defers
import Derived.Laws.Pointers
import Derived.Laws.LoneSync
import Derived.RegionTactic
import Derived.RegionCalls
import Derived.ChangeAlike
import Derived.Test.YtmlcfmickonfbaaGreatMgReadersAll1
import Derived.Test.YtmlcfmickonfbaaGreatMgReadersAll9
section
set_option linter.unusedVariables false
set_option linter.unusedSimpArgs false
/- Layer 6: even trees; plain data, no program in sight. -/
namespace Go.Proofs.YtmlcfmickonfbaaGreat
open Go.RowKit

/-- are the first leaves even? -/
def evL (P : List Int) (l : List Int) : Bool := l.all fun v => decide (depL P v = depL P (l.headD 0) ∧ depL P v ≤ 5)
theorem evenB_eq (P : List Int) : evenB P = evL P (leavesL P) := rfl
theorem evL_snoc (P : List Int) (l : List Int) (x : Int) : evL P (l ++ [x]) = (evL P l && decide (depL P x = depL P ((l ++ [x]).headD 0) ∧ depL P x ≤ 5)) := by
  unfold evL
  rw [List.all_append]
  cases l with
  | nil => simp
  | cons a l => simp
theorem evL_prefix (P : List Int) (l m : List Int) (h : evL P (l ++ m) = true) : evL P l = true := by
  unfold evL at *
  rw [List.all_append, Bool.and_eq_true] at h
  cases l with
  | nil => rfl
  | cons a l => exact h.1
theorem evL_bad {P : List Int} {l m : List Int} (h : evL P l = false) : evL P (l ++ m) = false := by
  cases he : evL P (l ++ m)
  · rfl
  · rw [evL_prefix P l m he] at h; cases h
theorem leavesTo_prefix (P : List Int) (k : Nat) : ∀ m, ∃ r, leavesTo P (k + m) = leavesTo P k ++ r
  | 0 => ⟨[], by simp⟩
  | m + 1 => by
    obtain ⟨r, hr⟩ := leavesTo_prefix P k m
    rw [← Nat.add_assoc, leavesTo_succ]
    split
    · exact ⟨r ++ [((k + m : Nat) : Int)], by rw [hr, List.append_assoc]⟩
    · exact ⟨r, hr⟩
theorem leaves_prefix (P : List Int) {k : Nat} (h : k ≤ P.length) : ∃ r, leavesL P = leavesTo P k ++ r := by
  obtain ⟨r, hr⟩ := leavesTo_prefix P k (P.length - k)
  exact ⟨r, by rw [← hr]; unfold leavesL; congr 1; omega⟩
theorem even_bad {P : List Int} {k : Nat} (h : k ≤ P.length) (hb : evL P (leavesTo P k) = false) : evenB P = false := by
  obtain ⟨r, hr⟩ := leaves_prefix P h
  rw [evenB_eq, hr]
  exact evL_bad hb
theorem depL_pos {P : List Int} {k : Nat} (h : k < P.length) : 1 ≤ depL P k := by
  unfold depL
  obtain ⟨n, hn⟩ : ∃ n, P.length = n + 1 := ⟨P.length - 1, by omega⟩
  rw [hn]
  unfold dep
  rw [if_pos (by omega)]
  omega
/-- the depth of the first leaf, 0 before there is one -/
def first (P : List Int) (k : Nat) : Nat := if leavesTo P k = [] then 0 else depL P ((leavesTo P k).headD 0)
theorem first_skip {P : List Int} {k : Nat} (h : leafB P k = false) : first P (k + 1) = first P k := by
  unfold first; rw [leavesTo_succ, h]; rfl
theorem mem_leavesTo {P : List Int} {k : Nat} {v : Int} (h : v ∈ leavesTo P k) : leafB P v = true ∧ 0 ≤ v ∧ v < k := by
  unfold leavesTo at h
  rw [List.mem_filter, List.mem_map] at h
  obtain ⟨⟨a, ha, rfl⟩, h2⟩ := h
  have := List.mem_range.1 ha
  exact ⟨h2, by show (0 : Int) ≤ (a : Int); omega, by show ((a : Nat) : Int) < k; omega⟩
theorem first_pos {P : List Int} {k : Nat} (hk : k ≤ P.length) (h : leavesTo P k ≠ []) : 1 ≤ first P k := by
  unfold first
  rw [if_neg h]
  cases hl : leavesTo P k with
  | nil => exact absurd hl h
  | cons a l =>
    have := (mem_leavesTo (P := P) (k := k) (v := a) (by rw [hl]; simp)).2
    obtain ⟨n, rfl⟩ := Int.eq_ofNat_of_zero_le this.1
    show 1 ≤ depL P (n : Int)
    exact depL_pos (by omega)
/-- the next leaf -/
theorem first_step {P : List Int} {k : Nat} (hk : k < P.length) (h : leafB P k = true) :
    first P (k + 1) = (if first P k = 0 then depL P k else first P k) ∧
    evL P (leavesTo P (k + 1)) = (evL P (leavesTo P k) && decide (depL P k = first P (k + 1) ∧ depL P k ≤ 5)) := by
  have e : leavesTo P (k + 1) = leavesTo P k ++ [(k : Int)] := by rw [leavesTo_succ, if_pos h]
  have e2 : first P (k + 1) = depL P ((leavesTo P k ++ [(k : Int)]).headD 0) := by
    unfold first; rw [e, if_neg (by simp)]
  refine ⟨?_, by rw [e, evL_snoc, e2]⟩
  by_cases hn : leavesTo P k = []
  · have : first P k = 0 := by unfold first; rw [if_pos hn]
    rw [if_pos this, e2, hn]; rfl
  · have := first_pos (by omega) hn
    rw [if_neg (by omega), e2]
    unfold first
    rw [if_neg hn]
    cases hl : leavesTo P k with
    | nil => exact absurd hl hn
    | cons a l => rfl
theorem thr_any (P T : List Int) : T.any (fun x => !decide (x ∈ leavesL P)) = !thrB P T := by
  unfold thrB
  rw [List.not_all_eq_any_not]
  congr 1
  funext x
  congr 1
  cases h : leafB P x
  · exact decide_eq_false fun hm => by rw [mem_leaves.1 hm] at h; cases h
  · exact decide_eq_true (mem_leaves.2 h)
/-- what may be -/
theorem chk_ok {P T : List Int} (h : chkT P T = 0) : manyB P T = false ∧ treeB P = true ∧ evenB P = true ∧ thrB P T = true := by
  unfold chkT at h
  cases h1 : manyB P T
  · cases h2 : treeB P
    · rw [h1, h2] at h; simp at h
    · cases h3 : evenB P
      · rw [h1, h2, h3] at h; simp at h
      · cases h4 : thrB P T
        · rw [h1, h2, h3, h4] at h; simp at h
        · exact ⟨rfl, rfl, rfl, rfl⟩
  · rw [h1] at h; simp at h
theorem many_lt {P T : List Int} (h : manyB P T = false) : 1 ≤ P.length ∧ P.length ≤ 32 ∧ 1 ≤ T.length ∧ T.length ≤ 32 := by
  simp only [manyB, decide_eq_false_iff_not] at h
  omega
theorem thr_mem {P T : List Int} (h : thrB P T = true) {i : Nat} {x : Int} (hi : T[i]? = some x) : x ∈ leavesL P := by
  unfold thrB at h
  rw [List.all_eq_true] at h
  exact mem_leaves.2 (h x (List.mem_of_getElem? hi))
def lvsT (P T : List Int) : List Int := if chkT P T = 0 then leavesL P else []
end Go.Proofs.YtmlcfmickonfbaaGreat
end
section
set_option linter.unusedVariables false
set_option linter.unusedSimpArgs false
/- Layer 6: topo.Check. -/
namespace Go.Proofs.YtmlcfmickonfbaaGreat
open Go.RowKit

theorem rdl_form {α : Type} {enc : α → List Value} {sz : Nat} {w : World} {v : Value} {l : List α} (h : RdL w v sz enc l) : ∃ A c, v = .slice A l.length c ∧ l.length ≤ c ∧ l.length ≤ 140737488355328 := by
  obtain ⟨A, c, h1, h2, h3, _⟩ := h
  exact ⟨A, c, h1, h2, h3⟩
/-- one cell of a list of ints -/
theorem rdl_int {w : World} {A : Option Addr} {n c : Nat} {l : List Int} (h : RdL w (.slice A n c) 1 encI l) (hl : 0 < l.length) :
    ∃ b off, A = some ⟨b, off, none⟩ ∧ b < w.heap.size ∧ ∀ i x, l[i]? = some x → w.cell? ⟨b, off + i, none⟩ = some (.int .i64 x) := by
  obtain ⟨A', c', e, h1, h2, h3⟩ := h
  injection e with e1 e2 e3
  subst e1
  obtain ⟨b, off, q1, q2, q3⟩ := h3 hl
  refine ⟨b, off, q1, q2, fun i x hx => ?_⟩
  have := q3 i x hx 0 _ rfl
  simpa using this
theorem chk_many {P T : List Int} (h : manyB P T = true) : chkT P T = 8 := by unfold chkT; rw [if_pos h]
theorem chk_tree {P T : List Int} (h : manyB P T = false) (h2 : treeB P = false) : chkT P T = 9 := by unfold chkT; rw [h, h2]; rfl
theorem chk_even {P T : List Int} (h : manyB P T = false) (h2 : treeB P = true) (h3 : evenB P = false) : chkT P T = 9 := by unfold chkT; rw [h, h2, h3]; rfl
theorem chk_thr {P T : List Int} (h : manyB P T = false) (h2 : treeB P = true) (h3 : evenB P = true) : chkT P T = if thrB P T then 0 else 4 := by
  unfold chkT; rw [h, h2, h3]
  cases thrB P T <;> rfl
theorem lev_get {P : List Int} {v : Int} (h0 : 0 ≤ v) (h : v < P.length) : (levL P)[v.toNat]? = some ((depL P v : Nat) : Int) := by
  unfold levL
  rw [range_get _ _ _ (by omega)]
  congr 3
  omega
theorem own_below {w w' : World} {base : Nat} {e : TypeId} {sz : Nat} {v : Value} {n : Nat} {xs : List Value} (h : w.ownsRow base e sz v n xs) (k : Below w.heap.size w w') : w'.ownsRow base e sz v n xs :=
  Turns.own h (Turns.of_below (S := []) k) (fun _ _ => by simp)
theorem own_set {w : World} {base : Nat} {e : TypeId} {sz : Nat} {v : Value} {n : Nat} {xs : List Value} (h : w.ownsRow base e sz v n xs) (g : Nat) (u : Value) (hg : ∀ b, v.ownBlock = some b → b ≠ g) : (w.setCell ⟨g, 0, none⟩ u).ownsRow base e sz v n xs :=
  Turns.own h (Turns.setCell (Turns.refl [g] w) (.inl (by simp)) u) (fun b hb => by simpa using hg b hb)
theorem bcell {W w1 : World} (hb : Below W.heap.size W w1) : (∀ b o, b < W.heap.size → w1.cell? ⟨b, o, none⟩ = W.cell? ⟨b, o, none⟩) ∧ (∀ b o, b < W.heap.size → w1.frozen? ⟨b, o, none⟩ = W.frozen? ⟨b, o, none⟩) :=
  ⟨fun b o h => hb.cell (p := ⟨b, o, none⟩) h, fun b o h => hb.frozen (p := ⟨b, o, none⟩) h⟩
set_option maxRecDepth 100000 in
set_option maxHeartbeats 4000000 in
theorem check_any (w : World) (vP vT : Value) (P T : List Int) (hP : RdL w vP 1 encI P) (hT : RdL w vT 1 encI T) :
    Calls Tryz.prog 42 #[.agg #[vP, vT]] w fun e w' => e = .returned (.int .i64 (chkT P T)) ∧ Below w.heap.size w w' := by
  have HP := Lib.hid hP
  have HT := Lib.hid hT
  obtain ⟨AP, cP, rfl, lP1, lP2⟩ := rdl_form hP
  obtain ⟨AT, cT, rfl, lT1, lT2⟩ := rdl_form hT
  clear hP hT
  have hb0 : Below w.heap.size w (w.alloc (.cells #[.slice AP P.length cP, .slice AT T.length cT] 24)) := (Below.refl _ _).alloc (Nat.le_refl _) _
  have HB0 := Lib.hid hb0
  clear hb0
  go_enter Tryz.func42, Tryz.ntmps42
  go_upto_region 1 with fail
  go_quiet (fail)
  have c0 : ((w.alloc (.cells #[.slice AP P.length cP, .slice AT T.length cT] 24)).drewN nq).cell? ⟨w.heap.size, 0, none⟩ = some (.slice AP P.length cP) := by simp [World.cell?_alloc_new]
  have c1 : ((w.alloc (.cells #[.slice AP P.length cP, .slice AT T.length cT] 24)).drewN nq).cell? ⟨w.heap.size, 1, none⟩ = some (.slice AT T.length cT) := by simp [World.cell?_alloc_new]
  have hsz : w.heap.size + 1 ≤ ((w.alloc (.cells #[.slice AP P.length cP, .slice AT T.length cT] 24)).drewN nq).heap.size := by simp [World.drewN]
  have hbb := below_drewN HB0.out nq
  clear HB0
  generalize ((w.alloc (.cells #[.slice AP P.length cP, .slice AT T.length cT] 24)).drewN nq) = wb at *
  have HB := Lib.hid hbb
  have HC := Lib.hid (And.intro c0 c1)
  have HPb := Lib.hid (HP.out.below hbb (Nat.le_refl _))
  have HTb := Lib.hid (HT.out.below hbb (Nat.le_refl _))
  clear hbb HP HT
  by_cases a1 : P.length < 1
  · have HE := Lib.hid (chk_many (P := P) (T := T) (decide_eq_true (.inl a1)))
    go_wp2
    go_ret
    exact ⟨ret_int HE.out.symm, HB.out⟩
  by_cases a2 : 32 < P.length
  · have HE := Lib.hid (chk_many (P := P) (T := T) (decide_eq_true (.inr (.inl a2))))
    go_wp2
    go_ret
    exact ⟨ret_int HE.out.symm, HB.out⟩
  by_cases a3 : T.length < 1
  · have HE := Lib.hid (chk_many (P := P) (T := T) (decide_eq_true (.inr (.inr (.inl a3)))))
    go_wp2
    go_ret
    exact ⟨ret_int HE.out.symm, HB.out⟩
  by_cases a4 : 32 < T.length
  · have HE := Lib.hid (chk_many (P := P) (T := T) (decide_eq_true (.inr (.inr (.inr a4)))))
    go_wp2
    go_ret
    exact ⟨ret_int HE.out.symm, HB.out⟩
  have HM := Lib.hid (show manyB P T = false from decide_eq_false (by omega))
  cases htr : treeB P
  · have HE := Lib.hid (chk_tree HM.out htr)
    have HQ := Lib.hid (tree_any wb _ P HPb.out)
    rw [htr] at HQ
    clear htr
    go_wp2_with (go_at_call 65; refine HQ.out.mono ?_; rintro e w' ⟨rfl, rfl⟩)
    go_ret
    exact ⟨ret_int HE.out.symm, HB.out⟩
  have HQ := Lib.hid (tree_any wb _ P HPb.out)
  rw [htr] at HQ
  have HTR := Lib.hid htr
  clear htr
  have bd : Below wb.heap.size wb wb.drew := (Below.refl _ _).drew
  go_upto_region 4 with fail
  go_wp2_with (go_at_call 65; refine HQ.out.mono ?_; rintro e w' ⟨rfl, rfl⟩)
  go_cut [5, 6] (fun s5 s6 wx => ∃ g v5, s5 = .pointer (some ⟨g, 0, none⟩) ∧ wb.heap.size ≤ g ∧ wx.cell? ⟨g, 0, none⟩ = some v5 ∧ wx.ownsRow wb.heap.size 3 1 v5 (leavesL P).length ((leavesL P).flatMap encI) ∧ wx.ownsRow wb.heap.size 3 1 s6 (levL P).length ((levL P).flatMap encI) ∧ Below wb.heap.size wb wx)
  case first =>
    go_region_held3 (fun W => W.cell? ⟨w.heap.size, 0, none⟩ = some (.slice AP P.length cP))
      (first | exact c0 | exact (bd.cell (p := ⟨w.heap.size, 0, none⟩) (show w.heap.size < wb.heap.size by omega)).trans c0 | exact (k3.cell (p := ⟨w.heap.size, 0, none⟩) (show w.heap.size < wb.heap.size by omega)).trans c0 | exact (k2.cell (p := ⟨w.heap.size, 0, none⟩) (show w.heap.size < wb.heap.size by omega)).trans c0 | exact ((k2.alloc k2.size _).cell (p := ⟨w.heap.size, 0, none⟩) (show w.heap.size < wb.heap.size by omega)).trans c0 | exact (((Below.refl wb.heap.size wb).alloc (Nat.le_refl _) _).cell (p := ⟨w.heap.size, 0, none⟩) (show w.heap.size < wb.heap.size by omega)).trans c0 | exact ((((Below.refl wb.heap.size wb).alloc (Nat.le_refl _) _).drew).cell (p := ⟨w.heap.size, 0, none⟩) (show w.heap.size < wb.heap.size by omega)).trans c0 | exact ((k3.setCell (by first | exact k2.size | exact Nat.le_refl _) _).cell (p := ⟨w.heap.size, 0, none⟩) (show w.heap.size < wb.heap.size by omega)).trans c0 | exact ((k3.alloc k3.size _).cell (p := ⟨w.heap.size, 0, none⟩) (show w.heap.size < wb.heap.size by omega)).trans c0 | (simp [*]; done))
      (first
        | (go_at_call 66; go_loud (refine (leaves_any _ _ P (HPb.out.below (B := wb.heap.size) (by first | exact bd | exact bd.alloc (Nat.le_refl _) _) (Nat.le_refl _)) HTR.out (by omega)).mono ?_); rintro e w2 ⟨v2, rfl, o2, b2⟩; obtain ⟨A2, c2, rfl⟩ := own_form o2; (have k2 : Below wb.heap.size wb w2 := (by first | exact bd.trans (b2.mono (by simp)) | exact (bd.alloc (Nat.le_refl _) _).trans (b2.mono (by simp)))); have hc2 := (bcell b2).1; have hf2 := (bcell b2).2; have O2 := Lib.hid o2; (first | have hz2 : wb.heap.size < w2.heap.size := (by have := b2.size; simp at this; omega) | have hz2 := k2.size))
        | (go_at_call 67; go_loud (refine (levels_any _ _ P (HPb.out.below (B := wb.heap.size) (by first | exact k2 | exact k2.alloc k2.size _ | exact k2.setCell (by simp) _ | exact (k2.alloc k2.size _).setCell (by simp) _) (Nat.le_refl _)) HTR.out (by omega)).mono ?_); rintro e w3 ⟨v3, rfl, o3, b3⟩; have hc3 := (bcell b3).1; have hf3 := (bcell b3).2; have O3 := Lib.hid o3; (have k3 : Below wb.heap.size wb w3 := (by first | exact k2.trans (b3.mono k2.size) | exact (k2.alloc k2.size _).trans (b3.mono (by simp; have := k2.size; omega))))))
    · have hs3 := b3.size
      have e2 := own_lower ((own_below O2.out b3).alloc (.cells #[.slice A2 (leavesL P).length c2] 22)) (b' := wb.heap.size) (by simp)
      have e3 := own_lower (O3.out.alloc (.cells #[.slice A2 (leavesL P).length c2] 22)) (b' := wb.heap.size) k2.size
      have e4 := (k2.trans (b3.mono k2.size)).alloc (Nat.le_trans k2.size b3.size) (.cells #[.slice A2 (leavesL P).length c2] 22)
      have HH := Lib.hid (And.intro e2 (And.intro e3 e4))
      clear e2 e3 e4
      go_wp2_with fail
      go_meet
      case rel => exact ⟨_, _, rfl, Nat.le_trans k2.size hs3, by simp [World.cell?_alloc_new], HH.out.1, HH.out.2.1, HH.out.2.2⟩
    · have hs3 := b3.size
      have e2 := own_lower (own_set (own_below (O2.out.alloc (.cells #[.slice none 0 0] 22)) b3) w2.heap.size (.slice A2 (leavesL P).length c2) (fun b hb => by have := (O2.out.lt b hb).2; omega)) (b' := wb.heap.size) (by simp)
      have e3 := own_lower (own_set O3.out w2.heap.size (.slice A2 (leavesL P).length c2) (fun b hb => by have := (O3.out.lt b hb).1; simp at this; omega)) (b' := wb.heap.size) (by simp; have := k2.size; omega)
      have e4 := ((k2.alloc k2.size (.cells #[.slice none 0 0] 22)).trans (b3.mono (by simp; have := k2.size; omega))).setCell (p := ⟨w2.heap.size, 0, none⟩) k2.size (.slice A2 (leavesL P).length c2)
      have HH := Lib.hid (And.intro e2 (And.intro e3 e4))
      clear e2 e3 e4
      go_wp2_with fail
      go_meet
      case rel => exact ⟨_, _, rfl, k2.size, World.cell?_setCell_same (u := .slice none 0 0) _ _ _ (by rw [hc3 _ _ (by simp)]; simp [World.cell?_alloc_new]), HH.out.1, HH.out.2.1, HH.out.2.2⟩
    · have hs3 := b3.size
      have e2 := own_lower (own_set (own_below O2.out b3) wb.heap.size (.slice A2 (leavesL P).length c2) (fun b hb => by have := (O2.out.lt b hb).1; simp at this; omega)) (b' := wb.heap.size) (by simp)
      have e3 := own_lower (own_set O3.out wb.heap.size (.slice A2 (leavesL P).length c2) (fun b hb => by have := (O3.out.lt b hb).1; omega)) (b' := wb.heap.size) k2.size
      have e4 := (k2.trans (b3.mono k2.size)).setCell (p := ⟨wb.heap.size, 0, none⟩) (Nat.le_refl _) (.slice A2 (leavesL P).length c2)
      have HH := Lib.hid (And.intro e2 (And.intro e3 e4))
      clear e2 e3 e4
      go_wp2_with fail
      go_meet
      case rel => exact ⟨_, _, rfl, Nat.le_refl _, World.cell?_setCell_same (u := .slice none 0 0) _ _ _ (by rw [hc3 _ _ (by omega), hc2 _ _ (by simp)]; simp [World.cell?_alloc_new]), HH.out.1, HH.out.2.1, HH.out.2.2⟩
  case rest =>
    clear HPb HQ bd c0 c1
    obtain ⟨g, v5, rfl, hg, hg5, o5, o6, bc⟩ := hcut
    have hll := leavesTo_len P P.length
    have hl5 : (leavesL P).length ≤ 32 := by show (leavesTo P P.length).length ≤ _; omega
    have hl6 : (levL P).length = P.length := by simp [levL]
    have R5 := own_rdl o5 (by omega)
    have R6 := own_rdl o6 (by omega)
    have HR5 := Lib.hid R5
    obtain ⟨A5, c5, rfl, k5, _⟩ := rdl_form R5
    obtain ⟨A6, c6, rfl, k6, _⟩ := rdl_form R6
    have f0 := (bc.cell (p := ⟨w.heap.size, 0, none⟩) (show w.heap.size < wb.heap.size by omega)).trans HC.out.1
    have f1 := (bc.cell (p := ⟨w.heap.size, 1, none⟩) (show w.heap.size < wb.heap.size by omega)).trans HC.out.2
    have HTc := Lib.hid (HTb.out.below bc (Nat.le_refl _))
    have HBc := Lib.hid (HB.out.trans (bc.mono HB.out.size))
    have H56 := Lib.hid (And.intro R5 R6)
    clear R5 R6 o5 o6 bc HTb HB HC
    go_wp2
    go_loopw [41] (fun i wr => ∃ j m : Nat, i = .int .i64 j ∧ j ≤ (leavesL P).length ∧ evL P ((leavesL P).take j) = true ∧ wr = wc.drewN m) (fun i _ => (leavesL P).length - (intOf i).toNat)
    case atStart => exact ⟨0, 0, rfl, by omega, rfl, rfl⟩
    case round =>
      obtain ⟨j, mm, rfl, hj, hev, rfl⟩ := hrel
      by_cases hjl : j < (leavesL P).length
      · obtain ⟨b5, off5, hA5, hb5, hc5⟩ := rdl_int H56.out.1 (by omega)
        obtain ⟨b6, off6, hA6, hb6, hc6⟩ := rdl_int H56.out.2 (by rw [hl6]; omega)
        subst hA5 hA6
        obtain ⟨x, hx⟩ := getElem?_lt hjl
        obtain ⟨y, hy⟩ := getElem?_lt (show 0 < (leavesL P).length by omega)
        have hxl := mem_leavesTo (P := P) (k := P.length) (List.mem_of_getElem? hx)
        have hyl := mem_leavesTo (P := P) (k := P.length) (List.mem_of_getElem? hy)
        obtain ⟨x, rfl⟩ := Int.eq_ofNat_of_zero_le hxl.2.1
        obtain ⟨y, rfl⟩ := Int.eq_ofNat_of_zero_le hyl.2.1
        have q1 := hc5 j _ hx
        have q2 := hc5 0 _ hy
        have q3 := hc6 x _ (by have := lev_get (P := P) hxl.2.1 hxl.2.2; simpa using this)
        have q4 := hc6 y _ (by have := lev_get (P := P) hyl.2.1 hyl.2.2; simpa using this)
        simp only [Nat.add_zero] at q2
        have hx32 : x < P.length := by have := hxl.2.2; omega
        have hy32 : y < P.length := by have := hyl.2.2; omega
        have htk : (leavesL P).take (j + 1) = (leavesL P).take j ++ [(x : Int)] := take_succ_of hx
        have hhd : ((leavesL P).take j ++ [(x : Int)]).headD 0 = (y : Int) := by
          rw [← htk]
          cases hl : leavesL P with
          | nil => rw [hl] at hy; cases hy
          | cons a l => rw [hl] at hy; simp at hy; simp [hy]
        have hev2 := evL_snoc P ((leavesL P).take j) x
        rw [hev, Bool.true_and, hhd, ← htk] at hev2
        obtain ⟨d, hd⟩ : ∃ d : Int, d = ((depL P x : Nat) : Int) := ⟨_, rfl⟩
        obtain ⟨d0, hd0⟩ : ∃ d : Int, d = ((depL P y : Nat) : Int) := ⟨_, rfl⟩
        rw [← hd] at q3
        rw [← hd0] at q4
        have HV := Lib.hid (And.intro hev2 (And.intro hd hd0))
        have hbd : evL P ((leavesL P).take (j + 1)) = false → evenB P = false := fun h => by
          have := evL_bad (m := (leavesL P).drop (j + 1)) h
          rwa [List.take_append_drop] at this
        have HBD := Lib.hid hbd
        clear hx hy hxl hyl htk hhd hev2 hd hd0 hev hc5 hc6 hbd
        cases e1 : (d != d0)
        · cases e2 : decide (5 < d)
          · have HN := Lib.hid (show evL P ((leavesL P).take (j + 1)) = true from by
              rw [HV.out.1]
              have := HV.out.2
              simp only [bne_eq_false_iff_eq, decide_eq_false_iff_not] at e1 e2
              exact decide_eq_true (by omega))
            go_wp2_with fail
            go_quiet (fail)
            go_wp2
            go_roundw
            case rel => exact ⟨j + 1, _, by go_num, by omega, HN.out, rfl⟩
            case measure => simp [intOf]; omega
          · have HN := Lib.hid (chk_even (T := T) HM.out HTR.out (HBD.out (by
              rw [HV.out.1]
              have := HV.out.2
              simp only [decide_eq_true_eq] at e2
              exact decide_eq_false (by omega))))
            go_wp2_with fail
            go_quiet (fail)
            go_wp2
            go_ret
            exact ⟨ret_int HN.out.symm, below_drewN (below_drewN HBc.out _) _⟩
        · have HN := Lib.hid (chk_even (T := T) HM.out HTR.out (HBD.out (by
            rw [HV.out.1]
            have := HV.out.2
            simp only [bne_iff_ne] at e1
            exact decide_eq_false (by omega))))
          go_wp2_with fail
          go_quiet (fail)
          go_wp2
          go_ret
          exact ⟨ret_int HN.out.symm, below_drewN (below_drewN HBc.out _) _⟩
      · obtain rfl : j = (leavesL P).length := by omega
        rw [List.take_length, ← evenB_eq] at hev
        have HN := Lib.hid (chk_thr (T := T) HM.out HTR.out hev)
        have hcf := containsFunc_any (wc.drewN mm) g _ _ (leavesL P) T (show (wc.drewN mm).cell? ⟨g, 0, none⟩ = _ from hg5) (H56.out.1.drewN mm) (HTc.out.drewN mm)
        rw [thr_any] at hcf
        clear hev
        cases hth : thrB P T
        · rw [hth] at hcf HN
          have HC := Lib.hid hcf
          clear hcf hth
          go_wp2_with (go_at_call 68; refine HC.out.mono ?_; rintro e w' ⟨rfl, rfl⟩)
          go_ret
          exact ⟨ret_int HN.out.symm, below_drewN HBc.out _⟩
        · rw [hth] at hcf HN
          have HC := Lib.hid hcf
          clear hcf hth
          go_wp2_with (go_at_call 68; refine HC.out.mono ?_; rintro e w' ⟨rfl, rfl⟩)
          go_ret
          exact ⟨ret_int HN.out.symm, below_drewN HBc.out _⟩

theorem tleaves_any (w : World) (vP vT : Value) (P T : List Int) (hP : RdL w vP 1 encI P) (hT : RdL w vT 1 encI T) :
    Calls Tryz.prog 85 #[.agg #[vP, vT]] w fun e w' => ∃ v, e = .returned v ∧ w'.ownsRow w.heap.size 3 1 v (lvsT P T).length ((lvsT P T).flatMap encI) ∧ Below w.heap.size w w' := by
  have hb0 : Below w.heap.size w (w.alloc (.cells #[vP, vT] 24)) := (Below.refl _ _).alloc (Nat.le_refl _) _
  have HC := Lib.hid (check_any (w.alloc (.cells #[vP, vT] 24)) vP vT P T (hP.alloc _) (hT.alloc _))
  have HP := Lib.hid hP
  have HB0 := Lib.hid hb0
  obtain ⟨AP, cP, rfl, lP1, lP2⟩ := rdl_form hP
  obtain ⟨AT, cT, rfl, lT1, lT2⟩ := rdl_form hT
  clear hP hT hb0
  go_enter Tryz.func85, Tryz.ntmps85
  by_cases hc : chkT P T = 0
  · have HL := Lib.hid (show lvsT P T = leavesL P from by unfold lvsT; rw [if_pos hc])
    obtain ⟨hm, ht, _, _⟩ := chk_ok hc
    have hml := many_lt hm
    have HT := Lib.hid ht
    rw [hc] at HC
    clear hc hm ht
    go_wp2_with fail
    refine HC.out.mono ?_
    rintro en w1 ⟨rfl, b1⟩
    have hc1 := (bcell b1).1
    have hs1 := b1.size
    simp at hs1
    have HB1 := Lib.hid (HB0.out.trans (b1.mono HB0.out.size))
    clear b1
    go_wp2_with fail
    refine (leaves_any _ _ P (HP.out.below HB1.out (Nat.le_refl _)) HT.out (by omega)).mono ?_
    rintro en w2 ⟨v2, rfl, o2, b2⟩
    have HO := Lib.hid (And.intro o2 b2)
    clear o2 b2
    go_wp2
    go_ret
    exact ⟨_, rfl, by rw [HL.out]; exact own_lower HO.out.1 (by omega), HB1.out.trans (HO.out.2.mono (by omega))⟩
  · have HL := Lib.hid (show lvsT P T = [] from by unfold lvsT; rw [if_neg hc])
    obtain ⟨z, hz⟩ : ∃ z, z = chkT P T := ⟨_, rfl⟩
    rw [← hz] at HC hc
    have hz0 : (z != 0) = true := by simpa using hc
    clear hc hz
    go_wp2_with fail
    refine HC.out.mono ?_
    rintro en w1 ⟨rfl, b1⟩
    have HB1 := Lib.hid (HB0.out.trans (b1.mono HB0.out.size))
    clear b1
    go_wp2
    go_ret
    exact ⟨_, rfl, by rw [HL.out]; exact World.ownsRow_nil _ _ _ _, HB1.out⟩
end Go.Proofs.YtmlcfmickonfbaaGreat
end
section
set_option linter.unusedVariables false
set_option linter.unusedSimpArgs false
/- sync.Once, one goroutine: the parts (after the guide's own Lazy texts). -/
namespace Go.Proofs.YtmlcfmickonfbaaGreat
open Go.RowKit

theorem race_off (w : World) : (callFunc 113 #[]).run Tryz.prog w = .ok (.value (.tuple #[])) w := run_call_mark0 Tryz.func113 (by kernel_rfl) (by kernel_rfl) (by kernel_rfl) .disable (by kernel_rfl) w
theorem race_on (w : World) : (callFunc 115 #[]).run Tryz.prog w = .ok (.value (.tuple #[])) w := run_call_mark0 Tryz.func115 (by kernel_rfl) (by kernel_rfl) (by kernel_rfl) .enable (by kernel_rfl) w
theorem race_acquire (a : Addr) (w : World) : (callFunc 116 #[.pointer (some a)]).run Tryz.prog w = .ok (.value (.tuple #[])) w := run_call_marked Tryz.func116 (by kernel_rfl) (by kernel_rfl) (by kernel_rfl) .acquire (by kernel_rfl) a w
theorem race_release (a : Addr) (w : World) : (callFunc 118 #[.pointer (some a)]).run Tryz.prog w = .ok (.value (.tuple #[])) w := run_call_marked Tryz.func118 (by kernel_rfl) (by kernel_rfl) (by kernel_rfl) .releaseMerge (by kernel_rfl) a w
set_option maxRecDepth 100000 in
theorem ilock_free (a : Addr) (w : World) (hc : w.cell? a = some (.int .i32 0)) (hz : w.frozen? a = false) :
    Calls Tryz.prog 108 #[.pointer (some a)] w fun e w' => e = .returned (.tuple #[]) ∧ w' = w.setCell a (.int .i32 1) := by
  have hd := race_off
  have he := race_on
  have ha := race_acquire
  have hcas := run_call_cas_hit (P := Tryz.prog) Tryz.func114 (by kernel_rfl) (by kernel_rfl) (by kernel_rfl) .i32 (by kernel_rfl) (y := 1) hc hz
  have hc' : (w.setCell a (.int .i32 1)).cell? a = some (.int .i32 1) := World.cell?_setCell_same w a _ hc
  have hcv := run_convert_to_unsafe (P := Tryz.prog) (src := 174) (dst := 178) Tryz.underlying174 Tryz.underlying178 (by kernel_rfl) hc'
  go_enter Tryz.func108, Tryz.ntmps108
  go_wp2
  first | (go_end0; exact ⟨rfl, rfl⟩) | exact bodyPost_ret (results_none rfl _ _ _) rfl ⟨rfl, rfl⟩ | ((simp only [Exit.inBlock, Exit.then]); exact bodyPost_ret (results_none rfl _ _ _) rfl ⟨rfl, rfl⟩)
set_option maxRecDepth 100000 in
theorem lock_free (a : Addr) (w : World) (hc : w.cell? a = some (.int .i32 0)) (hz : w.frozen? a = false) :
    Calls Tryz.prog 102 #[.pointer (some a)] w fun e w' => e = .returned (.tuple #[]) ∧ w' = w.setCell a (.int .i32 1) := by
  have HL := Lib.hid (ilock_free a w hc hz)
  go_enter Tryz.func102, Tryz.ntmps102
  go_wp2_with fail
  refine HL.out.mono ?_
  rintro e w' ⟨rfl, rfl⟩
  go_wp2
  first | (go_end0; exact ⟨rfl, rfl⟩) | exact bodyPost_ret (results_none rfl _ _ _) rfl ⟨rfl, rfl⟩ | ((simp only [Exit.inBlock, Exit.then]); exact bodyPost_ret (results_none rfl _ _ _) rfl ⟨rfl, rfl⟩)
set_option maxRecDepth 100000 in
theorem iunlock_held (a : Addr) (w : World) (hc : w.cell? a = some (.int .i32 1)) (hz : w.frozen? a = false) :
    Calls Tryz.prog 109 #[.pointer (some a)] w fun e w' => e = .returned (.tuple #[]) ∧ w' = w.setCell a (.int .i32 0) := by
  have hd := race_off
  have he := race_on
  have hr := race_release
  have hadd := run_call_add (P := Tryz.prog) Tryz.func119 (by kernel_rfl) (by kernel_rfl) (by kernel_rfl) .i32 (by kernel_rfl) (y := -1) (s := 0) hc hz (by simp [go_sem]; rfl)
  have hcv := run_convert_to_unsafe (P := Tryz.prog) (src := 174) (dst := 178) Tryz.underlying174 Tryz.underlying178 (by kernel_rfl) hc
  go_enter Tryz.func109, Tryz.ntmps109
  go_wp2
  first | (go_end0; exact ⟨rfl, rfl⟩) | exact bodyPost_ret (results_none rfl _ _ _) rfl ⟨rfl, rfl⟩ | ((simp only [Exit.inBlock, Exit.then]); exact bodyPost_ret (results_none rfl _ _ _) rfl ⟨rfl, rfl⟩)
set_option maxRecDepth 100000 in
theorem unlock_deferred (a : Addr) (u : FrameMode) (w : World) (hc : w.cell? a = some (.int .i32 1)) (hz : w.frozen? a = false) :
    CallsD Tryz.prog 103 #[.pointer (some a)] u w fun e u' w' => u' = u ∧ (e = .returned (.tuple #[]) ∧ w' = w.setCell a (.int .i32 0)) := by
  have HL := Lib.hid (iunlock_held a w hc hz)
  go_enter_d Tryz.func103, Tryz.ntmps103
  go_wp2_with fail
  refine HL.out.mono ?_
  rintro e w' ⟨rfl, rfl⟩
  go_wp2
  first | (go_end0; exact ⟨rfl, rfl⟩) | exact bodyPost_ret (results_none rfl _ _ _) rfl ⟨rfl, rfl⟩ | ((simp only [Exit.inBlock, Exit.then]); exact bodyPost_ret (results_none rfl _ _ _) rfl ⟨rfl, rfl⟩)
set_option maxRecDepth 100000 in
theorem store_deferred (a : Addr) (x : Value) (u : FrameMode) (w : World) (hc : w.cell? a = some x) (hz : w.frozen? a = false) :
    CallsD Tryz.prog 104 #[.pointer (some a), .bool true] u w fun e u' w' => u' = u ∧ (e = .returned (.tuple #[]) ∧ w' = w.drew.setCell a (.int .u32 1)) := by
  have hc' : w.drew.cell? a = some x := by go_simp
  have hz' : w.drew.frozen? a = false := by go_simp
  have hst := run_call_store (P := Tryz.prog) Tryz.func110 (by kernel_rfl) (by kernel_rfl) (by kernel_rfl) (by kernel_rfl) (k := .u32) (y := 1) hc' hz'
  go_enter_d Tryz.func104, Tryz.ntmps104
  go_wp2
  go_region_calls
  all_goals (go_end0; exact ⟨rfl, rfl⟩)
theorem bool_load (a : Addr) (n : Int) (w : World) (hc : w.cell? a = some (.int .u32 n)) : Calls Tryz.prog 83 #[.pointer (some a)] w fun e w' => e = .returned (.bool (n != 0)) ∧ w = w' := by
  have hl := run_call_load (P := Tryz.prog) Tryz.func101 (by kernel_rfl) (by kernel_rfl) (by kernel_rfl) .u32 (by kernel_rfl) hc
  go_enter Tryz.func83, Tryz.ntmps83
  go_wp2
  go_ret
  exact ⟨rfl, rfl⟩
end Go.Proofs.YtmlcfmickonfbaaGreat
end
section
set_option linter.unusedVariables false
set_option linter.unusedSimpArgs false
/- sync.Once, one goroutine: doSlow, Do. -/
namespace Go.Proofs.YtmlcfmickonfbaaGreat
open Go.RowKit
set_option linter.unusedVariables false

/-- what is left behind Do, the first time: w2 is the world behind the function's own call -/
def onceEnd (b off : Nat) (w2 : World) : World := (w2.drew.setCell ⟨b, off, none⟩ (.int .u32 1)).setCell ⟨b, off + 1, none⟩ (.int .i32 0)
/-- the once's two cells while the function runs -/
structure OnceHeld (b off : Nat) (w : World) : Prop where
  c0 : w.cell? ⟨b, off, none⟩ = some (.int .u32 0)
  c1 : w.cell? ⟨b, off + 1, none⟩ = some (.int .i32 1)
  f0 : w.frozen? ⟨b, off, none⟩ = false
  f1 : w.frozen? ⟨b, off + 1, none⟩ = false
set_option maxRecDepth 100000 in
set_option maxHeartbeats 1600000 in
theorem slow_any (b off fn : Nat) (x : Value) (w : World) (R : World → Prop) (h0 : w.cell? ⟨b, off, none⟩ = some (.int .u32 0)) (h1 : w.cell? ⟨b, off + 1, none⟩ = some (.int .i32 0))
    (f0 : w.frozen? ⟨b, off, none⟩ = false) (f1 : w.frozen? ⟨b, off + 1, none⟩ = false) (hfn : fn = 57)
    (hc : Calls Tryz.prog 57 #[x] (w.setCell ⟨b, off + 1, none⟩ (.int .i32 1)) fun e w2 => e = .returned (.tuple #[]) ∧ OnceHeld b off w2 ∧ R w2) :
    Calls Tryz.prog 84 #[.pointer (some ⟨b, off, none⟩), .func (.func fn) #[x] #[]] w fun e w' => e = .returned (.tuple #[]) ∧ ∃ w2, R w2 ∧ w' = onceEnd b off w2 := by
  subst hfn
  have HC := Lib.hid hc
  have HL := Lib.hid (bool_load ⟨b, off, none⟩ 0 (w.setCell ⟨b, off + 1, none⟩ (.int .i32 1)) ((World.cell?_setCell_other _ ⟨b, off + 1, none⟩ ⟨b, off, none⟩ _ (by simp)).trans h0))
  clear hc
  go_enter_defers Tryz.func84, Tryz.ntmps84
  go_wp2_with fail
  refine (lock_free ⟨b, off + 1, none⟩ _ h1 f1).mono ?_
  rintro e w' ⟨rfl, rfl⟩
  go_wp2_with fail
  refine HL.out.mono ?_
  rintro e w' ⟨rfl, rfl⟩
  go_wp2_with fail
  refine HC.out.mono ?_
  rintro e w2 ⟨rfl, hO, hR⟩
  have HO := Lib.hid (And.intro hO hR)
  clear hO hR
  go_wp2
  refine leaves_cons (f := 104) (args := #[.pointer (some ⟨b, off, none⟩), .bool true]) (by simp) (by simp [go_sem]) ?_
  refine (store_deferred ⟨b, off, none⟩ (.int .u32 0) .returning _ HO.out.1.c0 HO.out.1.f0).mono ?_
  rintro e u' w'' ⟨rfl, rfl, rfl⟩
  refine leaves_cons (f := 103) (args := #[.pointer (some ⟨b, off + 1, none⟩)]) (by simp [settle]) (by simp [go_sem]) ?_
  refine (unlock_deferred ⟨b, off + 1, none⟩ _ _ ?_ ?_).mono ?_
  · exact (World.cell?_setCell_other _ ⟨b, off, none⟩ ⟨b, off + 1, none⟩ _ (by simp)).trans HO.out.1.c1
  · have := HO.out.1.f1
    simp [this]
  rintro e u' w'' ⟨rfl, rfl, rfl⟩
  have HE : ∃ w3, R w3 ∧ (w2.drew.setCell ⟨b, off, none⟩ (.int .u32 1)).setCell ⟨b, off + 1, none⟩ (.int .i32 0) = onceEnd b off w3 := ⟨w2, HO.out.2, rfl⟩
  simp [Leaves, settle, results, Tryz.results84]
  exact HE
set_option maxRecDepth 100000 in
theorem do_first (b off : Nat) (x : Value) (w : World) (R : World → Prop) (h0 : w.cell? ⟨b, off, none⟩ = some (.int .u32 0)) (h1 : w.cell? ⟨b, off + 1, none⟩ = some (.int .i32 0))
    (f0 : w.frozen? ⟨b, off, none⟩ = false) (f1 : w.frozen? ⟨b, off + 1, none⟩ = false)
    (hc : Calls Tryz.prog 57 #[x] (w.setCell ⟨b, off + 1, none⟩ (.int .i32 1)) fun e w2 => e = .returned (.tuple #[]) ∧ OnceHeld b off w2 ∧ R w2) :
    Calls Tryz.prog 56 #[.pointer (some ⟨b, off, none⟩), .func (.func 57) #[x] #[]] w fun e w' => e = .returned (.tuple #[]) ∧ ∃ w2, R w2 ∧ w' = onceEnd b off w2 := by
  have HS := Lib.hid (slow_any b off _ x w R h0 h1 f0 f1 rfl hc)
  have HL := Lib.hid (bool_load ⟨b, off, none⟩ 0 w h0)
  clear hc
  go_enter Tryz.func56, Tryz.ntmps56
  go_wp2_with fail
  refine HL.out.mono ?_
  rintro e w' ⟨rfl, rfl⟩
  go_wp2_with fail
  refine HS.out.mono ?_
  rintro e w' ⟨rfl, hR⟩
  have HR := Lib.hid hR
  clear hR
  go_wp2
  first | (go_end0; exact ⟨rfl, HR.out⟩) | exact bodyPost_ret (results_none rfl _ _ _) rfl ⟨rfl, HR.out⟩
theorem do_done (b off : Nat) (fv : Value) (w : World) (h0 : w.cell? ⟨b, off, none⟩ = some (.int .u32 1)) :
    Calls Tryz.prog 56 #[.pointer (some ⟨b, off, none⟩), fv] w fun e w' => e = .returned (.tuple #[]) ∧ w = w' := by
  have HL := Lib.hid (bool_load ⟨b, off, none⟩ 1 w h0)
  go_enter Tryz.func56, Tryz.ntmps56
  go_wp2_with fail
  refine HL.out.mono ?_
  rintro e w' ⟨rfl, rfl⟩
  go_wp2
  first | (go_end0; exact ⟨rfl, rfl⟩) | exact bodyPost_ret (results_none rfl _ _ _) rfl ⟨rfl, rfl⟩
end Go.Proofs.YtmlcfmickonfbaaGreat
end
section
set_option linter.unusedVariables false
set_option linter.unusedSimpArgs false
/- slices.Clone of ints; path.New. -/
namespace Go.Proofs.YtmlcfmickonfbaaGreat
open Go.RowKit

theorem int_cells (l : List Int) : ∀ u ∈ l.flatMap encI, u.oneCell' = true := by
  intro u hu
  rw [flatI] at hu
  obtain ⟨x, _, rfl⟩ := List.mem_map.1 hu
  rfl
theorem lit_zero (w : World) : (w.alloc (.cells #[] 3)).ownsRow w.heap.size 3 1 (.slice (some ⟨w.heap.size, 0, none⟩) 0 0) 0 [] := by
  exact ⟨rfl, .inr ⟨w.heap.size, 0, #[], rfl, Nat.le_refl _, heap_alloc_new w _, Nat.le_refl _, by simp [maxLen], rfl, rfl⟩⟩
set_option maxRecDepth 100000 in
set_option maxHeartbeats 1600000 in
theorem clone_any (w : World) (v : Value) (l : List Int) (h : RdL w v 1 encI l) (h1000 : l.length ≤ 1000) :
    Calls Tryz.prog 43 #[v] w fun e w' => ∃ v', e = .returned v' ∧ w'.ownsRow w.heap.size 3 1 v' l.length (l.flatMap encI) ∧ Below w.heap.size w w' := by
  obtain ⟨i0, hi, hz0, hz1, hz2⟩ := info_parts Tryz.infoIn
  have HI := Lib.hid (And.intro hi (And.intro hz0 (And.intro hz1 hz2)))
  clear hi hz0 hz1 hz2
  have HR := Lib.hid h
  obtain ⟨A, cap, rfl, l1, l2, hr⟩ := h
  cases A with
  | none =>
    have hl : l = [] := by
      rcases Nat.eq_zero_or_pos l.length with h0 | h0
      · exact List.eq_nil_of_length_eq_zero h0
      · obtain ⟨b, off, e, _⟩ := hr h0; cases e
    subst hl
    clear hr HR
    simp only [List.length_nil]
    have hn := Lib.run_eql_slice_nil w 22 3 none 0 cap 0 0 Tryz.underlying22
    simp only [Option.isNone] at hn
    go_enter Tryz.func43, Tryz.ntmps43
    go_wp2
    go_ret
    exact ⟨_, rfl, World.ownsRow_nil _ _ _ _, Below.refl _ _⟩
  | some ad =>
    have HN := Lib.hid (show ∀ (j : Nat) (u : Value), (l.flatMap encI)[j]? = some u → w.cell? (ad.add j) = some u from by
      intro j u hu
      have hj : j < l.length := by have := (List.getElem?_eq_some_iff.1 hu).1; rw [flatI] at this; simpa using this
      obtain ⟨b, off, e, _, hc⟩ := hr (by omega)
      injection e with e
      subst e
      obtain ⟨x, hx⟩ := getElem?_lt hj
      have h1 := hc j x hx 0 _ rfl
      rw [flatI] at hu
      simp [hx] at hu
      subst hu
      have e2 : (⟨b, off, none⟩ : Addr).add j = ⟨b, off + j, none⟩ := by unfold Addr.add; by_cases hj0 : j = 0 <;> simp [hj0]
      rw [e2]
      simpa using h1)
    have hll : (l.flatMap encI).length = l.length * 1 := by rw [flatI]; simp
    have hn := Lib.run_eql_slice_nil w 22 3 (some ad) l.length cap 0 0 Tryz.underlying22
    simp only [Option.isNone] at hn
    clear hr
    go_enter Tryz.func43, Tryz.ntmps43
    go_wp2_with (at_builtin; go_loud (refine wpList_append_own _ rfl _ _ 22 rfl w.heap.size 3 i0 (.int .i64 0) 1 8 Tryz.underlying22 HI.out.1 HI.out.2.1 HI.out.2.2.1 HI.out.2.2.2 rfl (by decide) _ 0 [] rfl (lit_zero w) ad l.length cap (l.flatMap encI) rfl hll ?c1 (int_cells l) ?c3 ?c4 ?c5 ?_))
    case c1 => exact fun j u hu => (World.cell?_alloc_lt _ _ _ (by have := block_lt_of_cell (HN.out j u hu); exact this)).trans (HN.out j u hu)
    case c3 => unfold maxLen; omega
    case c4 => omega
    case c5 => simp
    intro v' w' hown' hgrow hnil
    have HO := Lib.hid (And.intro hown' hgrow)
    clear hown' hgrow hnil
    go_wp2
    go_ret
    exact ⟨_, rfl, by have := HO.out.1; simpa using this, (((Below.refl _ _).alloc (Nat.le_refl _) _).grown HO.out.2 (by simp) (fun j hj => by simp [Value.ownBlock] at hj; omega))⟩
end Go.Proofs.YtmlcfmickonfbaaGreat
end
section
set_option linter.unusedVariables false
set_option linter.unusedSimpArgs false
/- path.New. -/
namespace Go.Proofs.YtmlcfmickonfbaaGreat
open Go.RowKit

theorem RdL.turns {α : Type} {w w' : World} {v : Value} {sz : Nat} {enc : α → List Value} {l : List α} {S : List Nat} (h : RdL w v sz enc l) (k : Turns S w w') (hn : ∀ g, v.ownBlock = some g → g ∉ S) : RdL w' v sz enc l := by
  obtain ⟨A, cap, rfl, h2, h3, h4⟩ := h
  refine ⟨A, cap, rfl, h2, h3, fun hl => ?_⟩
  obtain ⟨b, off, rfl, hb, hc⟩ := h4 hl
  have hS : b ∉ S := hn b rfl
  refine ⟨b, off, rfl, Nat.lt_of_lt_of_le hb k.size, fun i x hx j u hu => ?_⟩
  rw [World.cell?_of_block (w := w) (w' := w') (a := ⟨b, off + i * sz + j, none⟩) (k.block b hb hS)]
  exact hc i x hx j u hu
def nilS : Value := .slice none 0 0
/-- a table of which nothing was found yet -/
structure Tab0 (w : World) (b : Nat) (P T : List Int) : Prop where
  ex : ∃ AP cP AT cT, Blk w b 91 #[.slice AP P.length cP, .slice AT T.length cT, .int .u32 0, .int .i32 0, .int .u32 0, .slice none 0 0, .slice none 0 0, .slice none 0 0, .slice none 0 0] ∧ RdL w (.slice AP P.length cP) 1 encI P ∧ RdL w (.slice AT T.length cT) 1 encI T ∧ (∀ g, (Value.slice AP P.length cP).ownBlock = some g → g ≠ b) ∧ (∀ g, (Value.slice AT T.length cT).ownBlock = some g → g ≠ b)
end Go.Proofs.YtmlcfmickonfbaaGreat
end
section
set_option linter.unusedVariables false
set_option linter.unusedSimpArgs false
/- Rows that a call owns, apart from one another and from one block; and what a topology's table holds (plain lists). -/
namespace Go.Proofs.YtmlcfmickonfbaaGreat
open Go.RowKit

structure ORow where
  e : TypeId
  v : Value
  n : Nat
  xs : List Value
/-- rows that are owned, apart from one another and from block b -/
structure Apart (w : World) (B b : Nat) (l : List ORow) : Prop where
  own : ∀ r ∈ l, w.ownsRow B r.e 1 r.v r.n r.xs
  ne : ∀ (i j : Nat) (r s : ORow), l[i]? = some r → l[j]? = some s → i ≠ j → ∀ g, r.v.ownBlock = some g → s.v.ownBlock ≠ some g
  nb : ∀ r ∈ l, r.v.ownBlock ≠ some b
section
variable {w w' : World} {B b : Nat} {l : List ORow}
theorem Apart.below (h : Apart w B b l) (k : Below w.heap.size w w') : Apart w' B b l := ⟨fun r hr => own_below (h.own r hr) k, h.ne, h.nb⟩
/-- a store to the block itself -/
theorem Apart.turn (h : Apart w B b l) (k : Turns [b] w w') : Apart w' B b l :=
  ⟨fun r hr => Turns.own (h.own r hr) k (fun g hg hm => h.nb r hr (by simp at hm; rw [← hm]; exact hg)), h.ne, h.nb⟩
/-- row number i turns -/
theorem Apart.app (h : Apart w B b l) {i : Nat} {r : ORow} (hi : l[i]? = some r) (hb : b < w.heap.size) (hg : w.grownBy w' r.v.ownBlock) {v' : Value} {n' : Nat} {xs' : List Value} (ho : w'.ownsRow B r.e 1 v' n' xs')
    (hat : v'.ownBlock = r.v.ownBlock ∨ ∃ g, w.heap.size ≤ g ∧ v'.ownBlock = some g) : Apart w' B b (l.set i ⟨r.e, v', n', xs'⟩) := by
  have hil : i < l.length := (List.getElem?_eq_some_iff.1 hi).1
  have hlt : ∀ s ∈ l, ∀ g, s.v.ownBlock = some g → g < w.heap.size := fun s hs g hg => ((h.own s hs).lt g hg).2
  have hset : ∀ (j : Nat) (s : ORow), (l.set i ⟨r.e, v', n', xs'⟩)[j]? = some s → (j = i ∧ s = ⟨r.e, v', n', xs'⟩) ∨ (j ≠ i ∧ l[j]? = some s) := fun j s hj => by
    rw [List.getElem?_set] at hj
    by_cases e : i = j
    · subst e
      rw [if_pos rfl, if_pos hil] at hj
      injection hj with hj
      exact .inl ⟨rfl, hj.symm⟩
    · rw [if_neg e] at hj
      exact .inr ⟨fun h => e h.symm, hj⟩
  have hother : ∀ (j : Nat) (s : ORow), l[j]? = some s → j ≠ i → w'.ownsRow B s.e 1 s.v s.n s.xs := fun j s hj hne => by
    cases hv : r.v.ownBlock with
    | none =>
      rw [hv] at hg
      exact Turns.own (S := []) (h.own s (List.mem_of_getElem? hj)) ⟨hg.os, hg.tape, hg.output, hg.size, fun i hi _ => hg.block i hi (by simp)⟩ (fun _ _ => by simp)
    | some g =>
      rw [hv] at hg
      exact Turns.own (h.own s (List.mem_of_getElem? hj)) (Turns.grown hg) (fun g' hg' hm => by
        simp at hm
        subst hm
        exact h.ne i j r s hi hj (fun e => hne e.symm) g' hv hg')
  have hnew : ∀ g, v'.ownBlock = some g → r.v.ownBlock = some g ∨ w.heap.size ≤ g := fun g hg' => by
    rcases hat with e | ⟨c, hc, e⟩
    · exact .inl (by rw [← e]; exact hg')
    · rw [e] at hg'; injection hg' with hg'; exact .inr (by omega)
  refine ⟨fun s hs => ?_, fun j k s t hj hk hne g hg1 hg2 => ?_, fun s hs hsb => ?_⟩
  · obtain ⟨j, hj⟩ := List.getElem?_of_mem hs
    rcases hset j s hj with ⟨rfl, rfl⟩ | ⟨e, hj'⟩
    · exact ho
    · exact hother j s hj' e
  · rcases hset j s hj with ⟨rfl, rfl⟩ | ⟨e1, hj'⟩
    · rcases hset k t hk with ⟨rfl, rfl⟩ | ⟨e2, hk'⟩
      · exact hne rfl
      · rcases hnew g hg1 with hx | hx
        · exact h.ne j k r t hi hk' hne g hx hg2
        · have := hlt t (List.mem_of_getElem? hk') g hg2; omega
    · rcases hset k t hk with ⟨rfl, rfl⟩ | ⟨e2, hk'⟩
      · rcases hnew g hg2 with hx | hx
        · exact h.ne j k s r hj' hi hne g hg1 hx
        · have := hlt s (List.mem_of_getElem? hj') g hg1; omega
      · exact h.ne j k s t hj' hk' hne g hg1 hg2
  · obtain ⟨j, hj⟩ := List.getElem?_of_mem hs
    rcases hset j s hj with ⟨rfl, rfl⟩ | ⟨e, hj'⟩
    · rcases hnew b hsb with hx | hx
      · exact h.nb r (List.mem_of_getElem? hi) hx
      · omega
    · exact h.nb s (List.mem_of_getElem? hj') hsb
theorem Apart.nil (w : World) (B b : Nat) : Apart w B b [] := ⟨by simp, by simp, by simp⟩
/-- a row of nothing comes in -/
theorem Apart.push (h : Apart w B b l) (e : TypeId) : Apart w B b (l ++ [⟨e, .slice none 0 0, 0, []⟩]) := by
  have hget : ∀ (j : Nat) (s : ORow), (l ++ [⟨e, .slice none 0 0, 0, []⟩])[j]? = some s → l[j]? = some s ∨ s = ⟨e, .slice none 0 0, 0, []⟩ := fun j s hj => by
    rw [List.getElem?_append] at hj
    split at hj
    · exact .inl hj
    · rw [List.getElem?_singleton] at hj
      split at hj
      · injection hj with hj; exact .inr hj.symm
      · cases hj
  refine ⟨fun r hr => ?_, fun i j r s hi hj hne g h1 h2 => ?_, fun r hr => ?_⟩
  · rcases List.mem_append.1 hr with hr | hr
    · exact h.own r hr
    · simp at hr; subst hr; exact World.ownsRow_nil _ _ _ _
  · rcases hget i r hi with a | a
    · rcases hget j s hj with c | c
      · exact h.ne i j r s a c hne g h1 h2
      · subst c; cases h2
    · subst a; cases h1
  · rcases List.mem_append.1 hr with hr | hr
    · exact h.nb r hr
    · simp at hr; subst hr; simp [Value.ownBlock]
end

/-- up from a place to the root -/
def upF (P : List Int) : Nat → Int → List Int
  | 0, _ => []
  | f + 1, v => if 0 ≤ v ∧ v < P.length then v :: upF P f (P.getD v.toNat 0) else []
def upL (P : List Int) (v : Int) : List Int := upF P P.length v
def nodesTo (P T : List Int) (k : Nat) : List Int := (T.take k).map (idxI (leavesL P))
def slotOf (T : List Int) (i : Nat) : Int := (((T.take i).count (T.getD i 0) : Nat) : Int)
def slotsTo (T : List Int) (k : Nat) : List Int := (List.range k).map (slotOf T)
def matesTo (P T : List Int) (k : Nat) : List Int := (leavesL P).map fun leaf => (((T.take k).count leaf : Nat) : Int)
theorem upF_fuel {P : List Int} (h : treeB P = true) : ∀ (f : Nat) (v : Int), v < f → ∀ g : Nat, v < g → upF P f v = upF P g v
  | 0, v, hv, g, hg => by
    cases g with
    | zero => rfl
    | succ g => unfold upF; rw [if_neg (by omega)]
  | f + 1, v, hv, g, hg => by
    cases g with
    | zero => unfold upF; rw [if_neg (by omega)]
    | succ g =>
      unfold upF
      split
      · rename_i hb
        obtain ⟨p, hp⟩ := getElem?_lt (show v.toNat < P.length by omega)
        have := tree_lt h hp
        rw [getD_of hp, upF_fuel h f p (by omega) g (by omega)]
      · rfl
theorem upL_step {P : List Int} (h : treeB P = true) {v : Nat} {p : Int} (hp : P[v]? = some p) : upL P v = (v : Int) :: upL P p := by
  have hlt := (List.getElem?_eq_some_iff.1 hp).1
  have hpl := tree_lt h hp
  unfold upL
  rw [upF_fuel h P.length v (by omega) (v + 1) (by omega)]
  show (if 0 ≤ (v : Int) ∧ (v : Int) < P.length then (v : Int) :: upF P v (P.getD (v : Int).toNat 0) else []) = _
  rw [if_pos (by omega), Int.toNat_natCast, getD_of hp]
  by_cases h0 : 0 ≤ p
  · rw [upF_fuel h v p (by omega) P.length (by omega)]
  · cases v with
    | zero =>
      show _ :: [] = _ :: upF P P.length p
      cases hn : P.length with
      | zero => rfl
      | succ n => unfold upF; rw [if_neg (by omega)]
    | succ v =>
      cases hn : P.length with
      | zero => omega
      | succ n => unfold upF; rw [if_neg (by omega), if_neg (by omega)]
theorem upL_neg {P : List Int} {p : Int} (h : p < 0) : upL P p = [] := by
  unfold upL
  cases hn : P.length with
  | zero => rfl
  | succ n => unfold upF; rw [if_neg (by omega)]
end Go.Proofs.YtmlcfmickonfbaaGreat
end
