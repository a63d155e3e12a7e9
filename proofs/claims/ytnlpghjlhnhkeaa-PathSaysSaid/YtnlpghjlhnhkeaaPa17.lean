/- Layer 7, the document's: Far, Meet. -/
import Derived.Test.YtnlpghjlhnhkeaaPa16
import Derived.Test.YtnlpghjlhnhkeaaTop7
namespace Go.Proofs.Ytnlpghjlhnhkeaa
open Go.RowKit

theorem farI_eq (P T : List Int) (i j : Int) : farI P T i j = fidx (fun x => decide (x ∈ upI P T j)) (upI P T i) := by
  unfold farI
  cases hi : hasB T i
  · have e : upI P T i = [] := by unfold upI; rw [hi]; rfl
    rw [e]
    symm
    exact fidx_none (by simp)
  · cases hj : hasB T j
    · have e : upI P T j = [] := by unfold upI; rw [hj]; rfl
      rw [e]
      symm
      exact fidx_none (by simp)
    · rfl
theorem upI_le {P T : List Int} (h : chkT P T = 0) (i : Int) : (upI P T i).length ≤ 32 := by
  have h1 := (many_lt (chk_ok h).1).2.1
  unfold upI
  split
  · have := upL_le P (T.getD i.toNat 0); omega
  · simp
set_option maxRecDepth 100000 in
set_option maxHeartbeats 4000000 in
theorem rfar_any (w : World) (vP vT : Value) (P T : List Int) (i j : Int) (h : TopoAt w vP vT P T) :
    Calls Try.prog 25 #[.agg #[vP, vT], .int .i64 i, .int .i64 j] w fun e w' => e = .returned (.int .i64 (farI P T i j)) ∧ Below w.heap.size w w' := by
  have HE := Lib.hid (farI_eq P T i j)
  have li := upI_le h.ok i
  have lj := upI_le h.ok j
  have hb0 : Below w.heap.size w (w.alloc (.cells #[vP, vT] 24)).drew := ((Below.refl _ _).alloc (Nat.le_refl _) _).drew
  have HB0 := Lib.hid hb0
  have HU := Lib.hid (fun W i (k : Below w.heap.size w W) => rup_any W vP vT P T i (h.below k (Nat.le_refl _)))
  have hbx : w.heap.size < (w.alloc (.cells #[vP, vT] 24)).heap.size := by simp
  obtain ⟨AP, cP, rfl, lP1, lP2⟩ := rdl_form h.p
  obtain ⟨AT, cT, rfl, lT1, lT2⟩ := rdl_form h.t
  have HS : Hid (∀ W, Below (w.heap.size + 1) (w.alloc (.cells #[.slice AP P.length cP, .slice AT T.length cT] 24)) W → W.cell? ⟨w.heap.size, 0, none⟩ = some (.slice AP P.length cP) ∧ W.cell? ⟨w.heap.size, 1, none⟩ = some (.slice AT T.length cT)) := Lib.hid fun W k => ⟨(k.cell (p := ⟨w.heap.size, 0, none⟩) (show w.heap.size < w.heap.size + 1 by omega)).trans (by simp [World.cell?_alloc_new]), (k.cell (p := ⟨w.heap.size, 1, none⟩) (show w.heap.size < w.heap.size + 1 by omega)).trans (by simp [World.cell?_alloc_new])⟩
  have HK0 := Lib.hid (show Below (w.heap.size + 1) (w.alloc (.cells #[.slice AP P.length cP, .slice AT T.length cT] 24)) (w.alloc (.cells #[.slice AP P.length cP, .slice AT T.length cT] 24)).drew from (Below.refl _ _).drew)
  have hz : (w.alloc (.cells #[.slice AP P.length cP, .slice AT T.length cT] 24)).drew.heap.size = w.heap.size + 1 := by simp
  have HZ := Lib.hid hz
  clear h hb0 hz
  go_enter Try.func25, Try.ntmps25
  go_wp2_with fail
  go_region_held3 (fun W => W.cell? ⟨w.heap.size, 0, none⟩ = some (.slice AP P.length cP) ∧ W.cell? ⟨w.heap.size, 1, none⟩ = some (.slice AT T.length cT))
    (first | exact HS.out _ HK0.out | exact HS.out _ HK1.out | exact HS.out _ HK2.out)
    (first
      | (go_at_call 24; (with_reducible refine (HU.out _ i HB0.out).mono ?_); rintro e w1 ⟨v1, rfl, o1, b1⟩; obtain ⟨A1, c1, rfl⟩ := own_form o1; have HK1 := Lib.hid (HK0.out.trans (b1.mono (Nat.le_of_eq HZ.out.symm))); have HB1 := Lib.hid (HB0.out.trans (b1.mono HB0.out.size)); have O1 := Lib.hid (And.intro o1 b1); clear o1 b1)
      | (go_at_call 24; (with_reducible refine (HU.out _ j HB1.out).mono ?_); rintro e w2 ⟨v2, rfl, o2, b2⟩; obtain ⟨A2, c2, rfl⟩ := own_form o2; have HK2 := Lib.hid (HK1.out.trans (b2.mono (Nat.le_trans (Nat.le_of_eq HZ.out.symm) O1.out.2.size))); have HB2 := Lib.hid (HB1.out.trans (b2.mono HB1.out.size)); have O2 := Lib.hid (And.intro o2 b2); clear o2 b2))
  all_goals
    have HR := Lib.hid (And.intro (own_rdl (own_below O1.out.1 O2.out.2) (by omega)) (own_rdl O2.out.1 (by omega)))
    go_wp2
    go_loop [9] (fun s => ∃ k : Nat, s = .int .i64 k ∧ k ≤ (upI P T i).length ∧ ∀ x ∈ (upI P T i).take k, (decide (x ∈ upI P T j)) = false) (fun s => (upI P T i).length - (intOf s).toNat)
    case atStart => exact ⟨0, rfl, by omega, by simp⟩
    case round =>
      obtain ⟨k, rfl, hk, hn⟩ := hrel
      by_cases hlt : k < (upI P T i).length
      · obtain ⟨y, hy⟩ := getElem?_lt hlt
        obtain ⟨b3, o3, hA, _, hc3⟩ := rdl_int HR.out.1 (by omega)
        subst hA
        have c0 := hc3 k y hy
        have HY := Lib.hid (And.intro hy hn)
        have HC := Lib.hid (has_any w2 _ (upI P T j) y HR.out.2)
        clear hc3 hy hn
        cases hp : (decide (y ∈ upI P T j))
        · have hne : Hid (∀ x ∈ (upI P T i).take (k + 1), (decide (x ∈ upI P T j)) = false) := Lib.hid (by
            intro x hx
            rcases (mem_take HY.out.1 x).1 hx with h | h
            · exact HY.out.2 x h
            · rw [h]; exact hp)
          rw [hp] at HC
          clear hp
          go_wp2_with fail
          refine HC.out.mono ?_
          rintro en w' ⟨rfl, rfl⟩
          go_wp2
          go_round
          case rel => exact ⟨k + 1, by go_num, by omega, hne.out⟩
          case measure => simp [intOf]; omega
        · have hid : Hid (fidx (fun x => decide (x ∈ upI P T j)) (upI P T i) = k) := Lib.hid (fidx_hit HY.out.1 hp HY.out.2)
          rw [hp] at HC
          clear hp
          go_wp2_with fail
          refine HC.out.mono ?_
          rintro en w' ⟨rfl, rfl⟩
          go_wp2
          go_ret
          exact ⟨ret_int (by rw [HE.out, hid.out]), HB2.out⟩
      · obtain rfl : k = (upI P T i).length := by omega
        rw [List.take_length] at hn
        have hid : Hid (fidx (fun x => decide (x ∈ upI P T j)) (upI P T i) = -1) := Lib.hid (fidx_none hn)
        clear hn
        go_wp2
        go_ret
        exact ⟨ret_int (by rw [HE.out, hid.out]), HB2.out⟩
set_option maxRecDepth 100000 in
set_option maxHeartbeats 1000000 in
theorem rmeet_any (w : World) (vP vT : Value) (P T : List Int) (i j : Int) (h : TopoAt w vP vT P T) :
    Calls Try.prog 26 #[.agg #[vP, vT], .int .i64 i, .int .i64 j] w fun e w' => e = .returned (.int .i64 (meetI P T i j)) ∧ Below w.heap.size w w' := by
  have hb0 : Below w.heap.size w (w.alloc (.cells #[vP, vT] 24)) := (Below.refl _ _).alloc (Nat.le_refl _) _
  have HB0 := Lib.hid hb0
  have HU := Lib.hid (fun W (k : Below w.heap.size w W) => rup_any W vP vT P T i (h.below k (Nat.le_refl _)))
  have HF := Lib.hid (rfar_any (w.alloc (.cells #[vP, vT] 24)) vP vT P T i j (h.below hb0 (Nat.le_refl _)))
  have hbx : w.heap.size < (w.alloc (.cells #[vP, vT] 24)).heap.size := by simp
  have HL := Lib.hid (farI_lt P T i j)
  have HM : Hid (meetI P T i j = if farI P T i j < 0 then -1 else (upI P T i).getD (farI P T i j).toNat 0) := Lib.hid rfl
  have li := upI_le h.ok i
  obtain ⟨AP, cP, rfl, lP1, lP2⟩ := rdl_form h.p
  obtain ⟨AT, cT, rfl, lT1, lT2⟩ := rdl_form h.t
  have HC := Lib.hid (show (w.alloc (.cells #[.slice AP P.length cP, .slice AT T.length cT] 24)).cell? ⟨w.heap.size, 0, none⟩ = some (.slice AP P.length cP) ∧ (w.alloc (.cells #[.slice AP P.length cP, .slice AT T.length cT] 24)).cell? ⟨w.heap.size, 1, none⟩ = some (.slice AT T.length cT) by simp [World.cell?_alloc_new])
  obtain ⟨f, hf⟩ : ∃ f, f = farI P T i j := ⟨_, rfl⟩
  rw [← hf] at HF HL HM
  clear h hb0 hf
  by_cases h0 : f < 0
  · have HE : Hid (meetI P T i j = -1) := Lib.hid (by rw [HM.out, if_pos h0])
    go_enter Try.func26, Try.ntmps26
    go_wp2_with fail
    refine HF.out.mono ?_
    rintro en w1 ⟨rfl, b1⟩
    have H1 := Lib.hid (HB0.out.trans (b1.mono HB0.out.size))
    clear b1
    go_wp2
    go_ret
    exact ⟨ret_int HE.out.symm, H1.out⟩
  · obtain ⟨hi, hlt⟩ := HL.out (by omega)
    obtain ⟨k, rfl⟩ := Int.eq_ofNat_of_zero_le (show 0 ≤ f by omega)
    simp only [Int.toNat_natCast] at HM hlt
    obtain ⟨y, hy⟩ := getElem?_lt hlt
    have HE : Hid (meetI P T i j = y) := Lib.hid (by rw [HM.out, if_neg h0, getD_of hy])
    have HY := Lib.hid hy
    clear hi hy HL HM
    go_enter Try.func26, Try.ntmps26
    go_wp2_with fail
    refine HF.out.mono ?_
    rintro en w1 ⟨rfl, b1⟩
    have H1 := Lib.hid (HB0.out.trans (b1.mono HB0.out.size))
    have x0 := (b1.cell (p := ⟨w.heap.size, 0, none⟩) hbx).trans HC.out.1
    have x1 := (b1.cell (p := ⟨w.heap.size, 1, none⟩) hbx).trans HC.out.2
    clear b1
    go_wp2_with fail
    refine (HU.out _ H1.out).mono ?_
    rintro en w2 ⟨v2, rfl, o2, b2⟩
    have H2 := Lib.hid (H1.out.trans (b2.mono H1.out.size))
    obtain ⟨A2, c2, rfl⟩ := own_form o2
    obtain ⟨b3, o3, hA, _, hc3⟩ := rdl_int (own_rdl o2 (by omega)) (by omega)
    subst hA
    have c0 := hc3 k y HY.out
    have hcap : (upI P T i).length ≤ c2 := by obtain ⟨_, _, e, h1, _⟩ := own_rdl o2 (by omega); injection e with _ _ e; omega
    clear b2 o2 hc3
    go_wp2
    go_ret
    exact ⟨ret_int HE.out.symm, H2.out⟩
end Go.Proofs.Ytnlpghjlhnhkeaa
