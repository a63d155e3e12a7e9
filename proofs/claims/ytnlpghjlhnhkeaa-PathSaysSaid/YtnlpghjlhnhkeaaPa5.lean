/- path.New. -/
import Derived.Test.YtnlpghjlhnhkeaaPa4
namespace Go.Proofs.Ytnlpghjlhnhkeaa
open Go.RowKit

theorem RdL.turns {α : Type} {w w' : World} {v : Value} {sz : Nat} {enc : α → List Value} {l : List α} {S : List Nat} (h : RdL w v sz enc l) (k : Turns S w w') (hn : ∀ g, v.ownBlock = some g → g ∉ S) : RdL w' v sz enc l := by
  obtain ⟨A, cap, rfl, h2, h3, h4⟩ := h
  refine ⟨A, cap, rfl, h2, h3, fun hl => ?_⟩
  obtain ⟨b, off, rfl, hb, hc⟩ := h4 hl
  have hS : b ∉ S := hn b rfl
  refine ⟨b, off, rfl, Nat.lt_of_lt_of_le hb k.size, fun i x hx j u hu => ?_⟩
  rw [World.cell?_of_block (w := w) (w' := w') (a := ⟨b, off + i * sz + j, none⟩) (k.block b hb hS)]
  exact hc i x hx j u hu
def nilS : Value := .slice none 0 0
/-- a table of which nothing was found yet -/
structure Tab0 (w : World) (b : Nat) (P T : List Int) : Prop where
  ex : ∃ AP cP AT cT, Blk w b 61 #[.slice AP P.length cP, .slice AT T.length cT, .int .u32 0, .int .i32 0, .int .u32 0, .slice none 0 0, .slice none 0 0, .slice none 0 0, .slice none 0 0] ∧ RdL w (.slice AP P.length cP) 1 encI P ∧ RdL w (.slice AT T.length cT) 1 encI T ∧ (∀ g, (Value.slice AP P.length cP).ownBlock = some g → g ≠ b) ∧ (∀ g, (Value.slice AT T.length cT).ownBlock = some g → g ≠ b)
theorem new_no (w : World) (vP vT : Value) (P T : List Int) (hP : RdL w vP 1 encI P) (hT : RdL w vT 1 encI T) (hc : chkT P T ≠ 0) :
    Calls Try.prog 8 #[.agg #[vP, vT]] w fun e w' => e = .returned (.tuple #[.pointer none, .int .i64 (chkT P T)]) ∧ Below w.heap.size w w' := by
  have HC := Lib.hid (check_any (w.alloc (.cells #[vP, vT] 24)) vP vT P T (hP.alloc _) (hT.alloc _))
  have HB0 := Lib.hid ((Below.refl w.heap.size w).alloc (Nat.le_refl _) (.cells #[vP, vT] 24))
  obtain ⟨AP, cP, rfl, lP1, lP2⟩ := rdl_form hP
  obtain ⟨AT, cT, rfl, lT1, lT2⟩ := rdl_form hT
  obtain ⟨z, hz⟩ : ∃ z, z = chkT P T := ⟨_, rfl⟩
  rw [← hz] at HC hc ⊢
  have hz0 : (z != 0) = true := by simpa using hc
  clear hP hT hc hz
  go_enter Try.func8, Try.ntmps8
  go_wp2_with fail
  refine HC.out.mono ?_
  rintro en w1 ⟨rfl, b1⟩
  have HB1 := Lib.hid (HB0.out.trans (b1.mono HB0.out.size))
  clear b1
  go_wp2
  go_ret2
  exact ⟨rfl, HB1.out⟩
set_option maxRecDepth 100000 in
set_option maxHeartbeats 4000000 in
theorem new_yes (w : World) (vP vT : Value) (P T : List Int) (hP : RdL w vP 1 encI P) (hT : RdL w vT 1 encI T) (hc : chkT P T = 0) :
    Calls Try.prog 8 #[.agg #[vP, vT]] w fun e w' => ∃ b, e = .returned (.tuple #[.pointer (some ⟨b, 0, none⟩), .int .i64 0]) ∧ w.heap.size ≤ b ∧ Tab0 w' b P T ∧ Below w.heap.size w w' := by
  have HC := check_any (w.alloc (.cells #[vP, vT] 24)) vP vT P T (hP.alloc _) (hT.alloc _)
  rw [hc] at HC
  have HCC := Lib.hid HC
  have HB0 := Lib.hid ((Below.refl w.heap.size w).alloc (Nat.le_refl _) (.cells #[vP, vT] 24))
  have HPT := Lib.hid (And.intro hP hT)
  have hml := many_lt (chk_ok hc).1
  obtain ⟨AP, cP, rfl, lP1, lP2⟩ := rdl_form hP
  obtain ⟨AT, cT, rfl, lT1, lT2⟩ := rdl_form hT
  have HX := Lib.hid (show (w.alloc (.cells #[.slice AP P.length cP, .slice AT T.length cT] 24)).cell? ⟨w.heap.size, 0, none⟩ = some (.slice AP P.length cP) ∧ (w.alloc (.cells #[.slice AP P.length cP, .slice AT T.length cT] 24)).cell? ⟨w.heap.size, 1, none⟩ = some (.slice AT T.length cT) by simp [World.cell?_alloc_new])
  have hbx : w.heap.size < (w.alloc (.cells #[.slice AP P.length cP, .slice AT T.length cT] 24)).heap.size := by simp
  clear hP hT hc HC
  go_enter Try.func8, Try.ntmps8
  go_wp2_with fail
  refine HCC.out.mono ?_
  rintro en w1 ⟨rfl, b1⟩
  have f0 := (b1.cell (p := ⟨w.heap.size, 0, none⟩) hbx).trans HX.out.1
  have f1 := (b1.cell (p := ⟨w.heap.size, 1, none⟩) hbx).trans HX.out.2
  have hs1 := b1.size
  simp at hs1
  have HB1 := Lib.hid (HB0.out.trans (b1.mono HB0.out.size))
  have HP1 := Lib.hid (fun W (h : Below w1.heap.size w1 W) => And.intro (HPT.out.1.below (HB1.out.trans (h.mono HB1.out.size)) (Nat.le_refl _)) (HPT.out.2.below (HB1.out.trans (h.mono HB1.out.size)) (Nat.le_refl _)))
  have bd : Below w1.heap.size w1 w1.drew := (Below.refl _ _).drew
  clear b1
  go_wp2_with fail
  go_region_held3 (fun W => W.cell? ⟨w.heap.size, 0, none⟩ = some (.slice AP P.length cP) ∧ W.cell? ⟨w.heap.size, 1, none⟩ = some (.slice AT T.length cT))
    (first | exact ⟨f0, f1⟩ | exact ⟨(k3.cell (p := ⟨w.heap.size, 0, none⟩) (show w.heap.size < w1.heap.size by omega)).trans f0, (k3.cell (p := ⟨w.heap.size, 1, none⟩) (show w.heap.size < w1.heap.size by omega)).trans f1⟩ | exact ⟨(k2.cell (p := ⟨w.heap.size, 0, none⟩) (show w.heap.size < w1.heap.size by omega)).trans f0, (k2.cell (p := ⟨w.heap.size, 1, none⟩) (show w.heap.size < w1.heap.size by omega)).trans f1⟩ | exact ⟨((k3.alloc k3.size _).cell (p := ⟨w.heap.size, 0, none⟩) (show w.heap.size < w1.heap.size by omega)).trans f0, ((k3.alloc k3.size _).cell (p := ⟨w.heap.size, 1, none⟩) (show w.heap.size < w1.heap.size by omega)).trans f1⟩)
    (first
      | (go_at_call 38; with_reducible refine (clone_any _ _ P (HP1.out _ bd).1 (by omega)).mono ?_; rintro e w2 ⟨v2, rfl, o2, b2⟩; obtain ⟨A2, c2, rfl⟩ := own_form o2; (have k2 : Below w1.heap.size w1 w2 := bd.trans (b2.mono (by simp))); have O2 := Lib.hid o2; clear o2)
      | (go_at_call 38; with_reducible refine (clone_any _ _ T (HP1.out _ k2).2 (by omega)).mono ?_; rintro e w3 ⟨v3, rfl, o3, b3⟩; obtain ⟨A3, c3, rfl⟩ := own_form o3; (have k3 : Below w1.heap.size w1 w3 := k2.trans (b3.mono k2.size)); have O3 := Lib.hid o3; clear o3))
  all_goals
    have hs3 := k3.size
    have e2 : ∀ g, (Value.slice A2 P.length c2).ownBlock = some g → g ≠ w3.heap.size := fun g hg => by have := (O2.out.lt g hg).2; have := b3.size; omega
    have e3 : ∀ g, (Value.slice A3 T.length c3).ownBlock = some g → g ≠ w3.heap.size := fun g hg => by have := (O3.out.lt g hg).2; omega
    have HT0 := Lib.hid (show Tab0 (w3.alloc (.cells #[.slice A2 P.length c2, .slice A3 T.length c3, .int .u32 0, .int .i32 0, .int .u32 0, .slice none 0 0, .slice none 0 0, .slice none 0 0, .slice none 0 0] 61)) w3.heap.size P T from
      ⟨A2, c2, A3, c3, Blk.new _ _ _, (own_rdl (own_below O2.out b3) (by omega)).alloc _, (own_rdl O3.out (by omega)).alloc _, e2, e3⟩)
    have HBE := Lib.hid ((HB1.out.trans (k3.mono HB1.out.size)).alloc (Nat.le_trans HB1.out.size hs3) (.cells #[.slice A2 P.length c2, .slice A3 T.length c3, .int .u32 0, .int .i32 0, .int .u32 0, .slice none 0 0, .slice none 0 0, .slice none 0 0, .slice none 0 0] 61))
    go_wp2
    go_ret2
    exact ⟨_, rfl, Nat.le_trans HB1.out.size hs3, HT0.out, HBE.out⟩
end Go.Proofs.Ytnlpghjlhnhkeaa
