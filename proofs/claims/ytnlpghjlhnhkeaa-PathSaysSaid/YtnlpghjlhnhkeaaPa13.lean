/- path.Table: Far, Meet, Topology of any numbers. -/
import Derived.Test.YtnlpghjlhnhkeaaPa12
namespace Go.Proofs.Ytnlpghjlhnhkeaa
open Go.RowKit

theorem farT (w : World) (b : Nat) (P T : List Int) (i j : Int) (h : Tab w b P T) : Calls Try.prog 12 #[.pointer (some ⟨b, 0, none⟩), .int .i64 i, .int .i64 j] w (Tells w b P T (.int .i64 (farI P T i j))) := by
  cases hi : hasB T i
  · have HE : Hid (farI P T i j = -1) := Lib.hid (by unfold farI; rw [hi]; rfl)
    have HH := Lib.hid (has_b w b P T i false hi h)
    have H := Lib.hid h
    clear h hi
    go_enter Try.func12, Try.ntmps12
    go_wp2_with fail
    refine HH.out.mono ?_
    rintro en w' ⟨rfl, rfl⟩
    go_wp2
    go_ret
    exact ⟨ret_int HE.out.symm, H.out, Turns.refl _ _⟩
  · cases hj : hasB T j
    · have HE : Hid (farI P T i j = -1) := Lib.hid (by unfold farI; rw [hi, hj]; rfl)
      have HH := Lib.hid (has_b w b P T i true hi h)
      have HJ := Lib.hid (has_b w b P T j false hj h)
      have H := Lib.hid h
      clear h hi hj
      go_enter Try.func12, Try.ntmps12
      go_wp2_with fail
      refine HH.out.mono ?_
      rintro en w' ⟨rfl, rfl⟩
      go_wp2_with fail
      refine HJ.out.mono ?_
      rintro en w' ⟨rfl, rfl⟩
      go_wp2
      go_ret
      exact ⟨ret_int HE.out.symm, H.out, Turns.refl _ _⟩
    · obtain ⟨ki, rfl, hki⟩ := has_nat hi
      obtain ⟨kj, rfl, hkj⟩ := has_nat hj
      obtain ⟨xi, hxi⟩ := getElem?_lt hki
      obtain ⟨xj, hxj⟩ := getElem?_lt hkj
      have e1 : upI P T ki = upL P xi := by unfold upI; rw [hi]; simp [hxi]
      have e2 : upI P T kj = upL P xj := by unfold upI; rw [hj]; simp [hxj]
      have e : farI P T ki kj = fidx (fun x => decide (x ∈ upL P xj)) (upL P xi) := by
        unfold farI
        rw [hi, hj, e1, e2]; rfl
      rw [e]
      exact far_yes w b P T ki kj xi xj hxi hxj h
def meetI (P T : List Int) (i j : Int) : Int := if farI P T i j < 0 then -1 else (upI P T i).getD (farI P T i j).toNat 0
theorem farI_lt (P T : List Int) (i j : Int) (h : 0 ≤ farI P T i j) : hasB T i = true ∧ (farI P T i j).toNat < (upI P T i).length := by
  unfold farI at *
  cases hi : hasB T i
  · rw [hi] at h; simp at h
  · cases hj : hasB T j
    · rw [hi, hj] at h; simp at h
    · rw [hi, hj] at h
      have h2 := (fidx_nonneg (fun x => decide (x ∈ upI P T j)) (upI P T i)).2.1
      simp at h ⊢
      omega
set_option maxHeartbeats 1000000 in
theorem meetT (w : World) (b : Nat) (P T : List Int) (i j : Int) (h : Tab w b P T) : Calls Try.prog 13 #[.pointer (some ⟨b, 0, none⟩), .int .i64 i, .int .i64 j] w (Tells w b P T (.int .i64 (meetI P T i j))) := by
  have HF := Lib.hid (farT w b P T i j h)
  have HL := Lib.hid (farI_lt P T i j)
  have HM : Hid (meetI P T i j = if farI P T i j < 0 then -1 else (upI P T i).getD (farI P T i j).toNat 0) := Lib.hid rfl
  obtain ⟨f, hf⟩ : ∃ f, f = farI P T i j := ⟨_, rfl⟩
  have h32 := (many_lt (chk_ok h.1).1).2.1
  have t32 := (many_lt (chk_ok h.1).1).2.2.2
  rw [← hf] at HF HL HM
  clear hf h
  by_cases h0 : f < 0
  · have HE : Hid (meetI P T i j = -1) := Lib.hid (by rw [HM.out, if_pos h0])
    go_enter Try.func13, Try.ntmps13
    go_wp2_with fail
    refine HF.out.mono ?_
    rintro en w1 ⟨rfl, h1, h2⟩
    have H1 := Lib.hid (And.intro h1 h2)
    clear h1 h2
    go_wp2
    go_ret
    exact ⟨ret_int HE.out.symm, H1.out⟩
  · obtain ⟨hi, hlt⟩ := HL.out (by omega)
    obtain ⟨k, rfl⟩ := Int.eq_ofNat_of_zero_le (show 0 ≤ f by omega)
    obtain ⟨ki, rfl, hki⟩ := has_nat hi
    obtain ⟨xi, hxi⟩ := getElem?_lt hki
    have e1 : upI P T ki = upL P xi := by unfold upI; rw [hi]; simp [hxi]
    rw [e1] at HM hlt
    simp only [Int.toNat_natCast] at HM hlt
    obtain ⟨y, hy⟩ := getElem?_lt hlt
    have HE : Hid (meetI P T ki j = y) := Lib.hid (by rw [HM.out, if_neg h0, getD_of hy])
    have HX := Lib.hid (And.intro hxi hy)
    have hul := upL_le P xi
    obtain ⟨L, hL⟩ : ∃ L, L = T.length := ⟨_, rfl⟩
    have HLL := Lib.hid hL
    rw [← hL] at hki t32
    clear hi hxi hy e1 HL HM hL
    go_enter Try.func13, Try.ntmps13
    go_wp2_with fail
    refine HF.out.mono ?_
    rintro en w1 ⟨rfl, h1, h2⟩
    have HF1 := Lib.hid (found_any w1 b P T h1)
    have H2 := Lib.hid h2
    clear h1 h2
    go_wp2_with fail
    refine HF1.out.mono ?_
    rintro en w2 ⟨rfl, h3, h4⟩
    obtain ⟨b1, o1, cu, A, c, c5, cu1, hr, hcu, hb1⟩ := h3.upAt HX.out.1
    obtain ⟨b2, o2, hA, _, hc2⟩ := rdl_int hr (by omega)
    subst hA
    have q1 := hc2 k y HX.out.2
    rw [← HLL.out] at c5 hcu
    have H4 := Lib.hid (And.intro h3.tab (H2.out.trans h4))
    clear h3 h4 hr hc2
    go_wp2
    go_ret
    exact ⟨ret_int HE.out.symm, H4.out⟩
/-- both of a table's lists -/
theorem Tab.pt {w : World} {b : Nat} {P T : List Int} (h : Tab w b P T) : ∃ AP cP AT cT, w.cell? ⟨b, 0, none⟩ = some (.slice AP P.length cP) ∧ w.cell? ⟨b, 1, none⟩ = some (.slice AT T.length cT) ∧ RdL w (.slice AP P.length cP) 1 encI P ∧ RdL w (.slice AT T.length cT) 1 encI T := by
  rcases h.2 with h0 | h0
  · obtain ⟨AP, cP, AT, cT, h1, h2, h3, _⟩ := h0.ex
    exact ⟨AP, cP, AT, cT, h1.cell 0, h1.cell 1, h2, h3⟩
  · obtain ⟨AP, cP, AT, cT, vU, vN, vS, vM, us, h1, h2, h3, _⟩ := h0.ex
    exact ⟨AP, cP, AT, cT, h1.cell 0, h1.cell 1, h2, h3⟩
def TellsTopo (w : World) (P T : List Int) (e : Ending) (w' : World) : Prop := ∃ vP vT, e = .returned (.agg #[vP, vT]) ∧ RdL w' vP 1 encI P ∧ RdL w' vT 1 encI T ∧ Below w.heap.size w w'
set_option maxRecDepth 100000 in
set_option maxHeartbeats 4000000 in
theorem topo_gen (w : World) (b : Nat) (P T : List Int) (hbl : b < w.heap.size) (hm2 : P.length ≤ 32) (hm4 : T.length ≤ 32) (AP AT : Option Addr) (cP cT : Nat) (c0 : w.cell? ⟨b, 0, none⟩ = some (.slice AP P.length cP)) (c1 : w.cell? ⟨b, 1, none⟩ = some (.slice AT T.length cT))
    (hP : RdL w (.slice AP P.length cP) 1 encI P) (hT : RdL w (.slice AT T.length cT) 1 encI T) : Calls Try.prog 29 #[.pointer (some ⟨b, 0, none⟩)] w (TellsTopo w P T) := by
  have HPT := Lib.hid (And.intro c0 (And.intro c1 (And.intro hP hT)))
  clear c0 c1 hP hT
  go_enter Try.func29, Try.ntmps29
  go_wp2_with fail
  have HS : Hid (∀ W, Below w.heap.size w W → W.cell? ⟨b, 0, none⟩ = some (.slice AP P.length cP) ∧ W.cell? ⟨b, 1, none⟩ = some (.slice AT T.length cT)) := Lib.hid fun W k => ⟨(k.cell (p := ⟨b, 0, none⟩) hbl).trans HPT.out.1, (k.cell (p := ⟨b, 1, none⟩) hbl).trans HPT.out.2.1⟩
  have HR : Hid (∀ W, Below w.heap.size w W → RdL W (.slice AP P.length cP) 1 encI P ∧ RdL W (.slice AT T.length cT) 1 encI T) := Lib.hid fun W k => ⟨HPT.out.2.2.1.below k (Nat.le_refl _), HPT.out.2.2.2.below k (Nat.le_refl _)⟩
  have k1 : Below w.heap.size w (w.alloc (.cells #[.slice none 0 0, .slice none 0 0] 24)).drew := ((Below.refl _ _).alloc (Nat.le_refl _) _).drew
  have HB : Hid (Blk (w.alloc (.cells #[.slice none 0 0, .slice none 0 0] 24)).drew w.heap.size 24 #[.slice none 0 0, .slice none 0 0]) := Lib.hid (Blk.new _ _ _).drew
  have HK1 := Lib.hid k1
  go_region_held3 (fun W => W.cell? ⟨b, 0, none⟩ = some (.slice AP P.length cP) ∧ W.cell? ⟨b, 1, none⟩ = some (.slice AT T.length cT))
    (first | exact HS.out _ HK1.out | exact HS.out _ HK3.out | exact HS.out _ HK2.out | exact HS.out _ ((HK3.out.setCell (Nat.le_refl _) _).setCell (Nat.le_refl _) _))
    (first
      | (go_at_call 38; (with_reducible refine (clone_any _ _ P (HR.out _ HK1.out).1 (by omega)).mono ?_); rintro e w2 ⟨v2, rfl, o2, b2⟩; obtain ⟨A2, c2, rfl⟩ := own_form o2; (have HK2 := Lib.hid (HK1.out.trans (b2.mono HK1.out.size))); have O2 := Lib.hid (And.intro o2 b2); clear o2 b2)
      | (go_at_call 38; (with_reducible refine (clone_any _ _ T (HR.out _ HK2.out).2 (by omega)).mono ?_); rintro e w3 ⟨v3, rfl, o3, b3⟩; obtain ⟨A3, c3, rfl⟩ := own_form o3; (have HK3 := Lib.hid (HK2.out.trans (b3.mono HK2.out.size))); have O3 := Lib.hid (And.intro o3 b3); clear o3 b3;
         have HB3 := Lib.hid ((HB.out.below O2.out.2 HB.out.lt).below O3.out.2 (HB.out.below O2.out.2 HB.out.lt).lt); have p0 : w3.cell? ⟨w.heap.size, 0, none⟩ = some (.slice none 0 0) := HB3.out.cell 0; have p1 : w3.cell? ⟨w.heap.size, 1, none⟩ = some (.slice none 0 0) := HB3.out.cell 1; have q0 := HB3.out.free 0; have q1 := HB3.out.free 1; have zz := HB3.out.lt))
  all_goals
    have HP2 := Lib.hid (own_rdl (own_below O2.out.1 O3.out.2) (by omega))
    have HP3 := Lib.hid (own_rdl O3.out.1 (by omega))
    have hz : (w.alloc (.cells #[.slice none 0 0, .slice none 0 0] 24)).drew.heap.size = w.heap.size + 1 := by simp
    have l2 : Hid (∀ g, (Value.slice A2 P.length c2).ownBlock = some g → g ∉ [w.heap.size]) := Lib.hid fun g hg hm => by have := (O2.out.1.lt g hg).1; have := List.mem_singleton.1 hm; omega
    have l3 : Hid (∀ g, (Value.slice A3 T.length c3).ownBlock = some g → g ∉ [w.heap.size]) := Lib.hid fun g hg hm => by have := (O3.out.1.lt g hg).1; have := O2.out.2.size; have := List.mem_singleton.1 hm; omega
    have HT : Hid (Turns [w.heap.size] w3 ((w3.setCell ⟨w.heap.size, 0, none⟩ (.slice A2 P.length c2)).setCell ⟨w.heap.size, 1, none⟩ (.slice A3 T.length c3))) := Lib.hid (((Turns.refl _ _).setCell (.inl (by simp)) _).setCell (.inl (by simp)) _)
    have HB5 := Lib.hid ((HB3.out.set_ 0 (.slice A2 P.length c2)).set_ 1 (.slice A3 T.length c3))
    go_wp2
    have d0 := HB5.out.cell 0
    have d1 := HB5.out.cell 1
    simp at d0 d1
    refine bodyPost_ret (v := .agg #[.slice A2 P.length c2, .slice A3 T.length c3]) (by simp [results, Try.results29, go_sem, d0, d1]) rfl ⟨_, _, rfl, HP2.out.turns HT.out l2.out, HP3.out.turns HT.out l3.out, ?_⟩
    exact (HK3.out.setCell (Nat.le_refl _) _).setCell (Nat.le_refl _) _
theorem topologyT (w : World) (b : Nat) (P T : List Int) (h : Tab w b P T) : Calls Try.prog 29 #[.pointer (some ⟨b, 0, none⟩)] w (TellsTopo w P T) := by
  have hm := many_lt (chk_ok h.1).1
  obtain ⟨AP, cP, AT, cT, c0, c1, hP, hT⟩ := h.pt
  exact topo_gen w b P T (Tab.lt h) hm.2.1 hm.2.2.2 AP AT cP cT c0 c1 hP hT
end Go.Proofs.Ytnlpghjlhnhkeaa
