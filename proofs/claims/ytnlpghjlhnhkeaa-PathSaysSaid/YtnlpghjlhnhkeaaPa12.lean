/- path.Table.Far. -/
import Derived.Test.YtnlpghjlhnhkeaaPa11
import Derived.Test.YtnlpghjlhnhkeaaShut
import Derived.Test.YtnlpghjlhnhkeaaPa2
namespace Go.Proofs.Ytnlpghjlhnhkeaa
open Go.RowKit

def farI (P T : List Int) (i j : Int) : Int := if hasB T i && hasB T j then fidx (fun x => decide (x ∈ upI P T j)) (upI P T i) else -1
/-- what Far's region loads -/
structure FarC (w : World) (b : Nat) (b1 o1 cu n ki kj : Nat) (vi vj : Value) : Prop where
  c : w.cell? ⟨b, 5, none⟩ = some (.slice (some ⟨b1, o1, none⟩) n cu) ∧ w.cell? ⟨b1, o1 + ki, none⟩ = some vi ∧ w.cell? ⟨b1, o1 + kj, none⟩ = some vj
theorem TabF.farC {w : World} {b : Nat} {P T : List Int} (h : TabF w b P T) {ki kj : Nat} {xi xj : Int} (hi : T[ki]? = some xi) (hj : T[kj]? = some xj) :
    ∃ b1 o1 cu Ai ci Aj cj, FarC w b b1 o1 cu T.length ki kj (.slice Ai (upL P xi).length ci) (.slice Aj (upL P xj).length cj) ∧ RdL w (.slice Ai (upL P xi).length ci) 1 encI (upL P xi) ∧ RdL w (.slice Aj (upL P xj).length cj) 1 encI (upL P xj) ∧ T.length ≤ cu ∧ b1 < w.heap.size ∧ b < w.heap.size := by
  obtain ⟨b1, o1, cu, A, c, e1, e2, e3, e4, e5⟩ := h.upAt hi
  obtain ⟨b2, o2, cu', A', c', f1, f2, f3, f4, f5⟩ := h.upAt hj
  rw [e1] at f1
  injection f1 with f1
  injection f1 with f1 g1 g2
  injection f1 with f1
  injection f1 with f1 g3
  subst f1 g3 g2
  exact ⟨b1, o1, cu, A, c, A', c', ⟨e1, e2, f2⟩, e3, f3, e4, e5, Tab.lt h.tab⟩
theorem FarC.below {w w' : World} {b b1 o1 cu n ki kj : Nat} {vi vj : Value} (h : FarC w b b1 o1 cu n ki kj vi vj) (hb : b < w.heap.size) (hb1 : b1 < w.heap.size) (k : Below w.heap.size w w') : FarC w' b b1 o1 cu n ki kj vi vj :=
  ⟨(k.cell (p := ⟨b, 5, none⟩) hb).trans h.c.1, (k.cell (p := ⟨b1, o1 + ki, none⟩) hb1).trans h.c.2.1, (k.cell (p := ⟨b1, o1 + kj, none⟩) hb1).trans h.c.2.2⟩
/-- where the new table's rows of ways up lie -/
def UpLo (w w' : World) (b : Nat) (T : List Int) : Prop := ∃ b1 cu, w'.cell? ⟨b, 5, none⟩ = some (.slice (some ⟨b1, 0, none⟩) T.length cu) ∧ w.heap.size ≤ b1
theorem lo_of_find {w1 w2 : World} {b : Nat} {AP AT : Option Addr} {cP cT : Nat} {P T : List Int} {vL vU vN vS vM : Value} {us : List ORow} (hT : 1 ≤ T.length)
    (h : FindIs w1 w2 b (.slice AP P.length cP) (.slice AT T.length cT) P T vL vU vN vS vM us T.length) : UpLo w1 (onceEnd b 2 w2) b T := by
  have hr := h.rows.own (upRow (us.map (·.v)) vU) (by simp)
  obtain ⟨g, c, e, hg, _⟩ := own_form1 hr (by show 0 < (us.map (·.v)).length; rw [List.length_map, h.len]; omega)
  have e' : vU = .slice (some ⟨g, 0, none⟩) T.length c := by
    have : (upRow (us.map (·.v)) vU).n = T.length := by show (us.map (·.v)).length = _; rw [List.length_map, h.len]
    rw [this] at e; exact e
  have hB : Blk (onceEnd b 2 w2) b 61 (tabC (.slice AP P.length cP) (.slice AT T.length cT) 1 0 vU vN vS vM) := ((h.blk.drew).set_ 2 (.int .u32 1)).set_ 3 (.int .i32 0)
  have c5 := hB.cell 5
  refine ⟨g, c, ?_, hg⟩
  rw [c5, ← e']; rfl
/-- the table outlasts a turn of a block that is none of its own -/
theorem tab_of_find2 {w1 w2 W' : World} {b g : Nat} {AP AT : Option Addr} {cP cT : Nat} {P T : List Int} {vL vU vN vS vM : Value} {us : List ORow} (hc : chkT P T = 0)
    (h : FindIs w1 w2 b (.slice AP P.length cP) (.slice AT T.length cT) P T vL vU vN vS vM us T.length)
    (hP : RdL w1 (.slice AP P.length cP) 1 encI P) (hT : RdL w1 (.slice AT T.length cT) 1 encI T)
    (nP : ∀ g', (Value.slice AP P.length cP).ownBlock = some g' → g' ≠ b ∧ g' ≠ g) (nT : ∀ g', (Value.slice AT T.length cT).ownBlock = some g' → g' ≠ b ∧ g' ≠ g)
    (hg : g < w1.heap.size) (hbg : b ≠ g) (k : Turns [g] (onceEnd b 2 w2) W') : TabF W' b P T := by
  have hml := many_lt (chk_ok hc).1
  have hll : (leavesL P).length ≤ 32 := by have := leavesTo_len P P.length; show (leavesTo P P.length).length ≤ _; omega
  have k0 : Turns [b] w2 (onceEnd b 2 w2) := ((Turns.refl [b] w2).drew.setCell (.inl (by simp)) _).setCell (.inl (by simp)) _
  have k1 : Turns [b, g] w1 W' := ((h.bel.trans k0).mono (by simp)).trans (k.mono (by simp))
  have hr : ∀ r ∈ ([intRow vL (leavesL P), intRow vM (matesTo P T T.length), intRow vN (nodesTo P T T.length), intRow vS (slotsTo T T.length), upRow (us.map (·.v)) vU] ++ us), W'.ownsRow w1.heap.size r.e 1 r.v r.n r.xs := fun r hr =>
    Turns.own ((h.rows.turn k0).own r hr) k (fun g' hg' hm => by
      have := (((h.rows.turn k0).own r hr).lt g' hg').1
      simp at hm; omega)
  refine ⟨hc, AP, cP, AT, cT, vU, vN, vS, vM, us.map (·.v), ?_, hP.turns k1 (fun g' hg' hm => by simp at hm; rcases hm with e | e; exact (nP g' hg').1 e; exact (nP g' hg').2 e), hT.turns k1 (fun g' hg' hm => by simp at hm; rcases hm with e | e; exact (nT g' hg').1 e; exact (nT g' hg').2 e), ?_, ?_, ?_, ?_, by simp [h.len], fun i x v hi hv => ?_⟩
  · exact k.blk (((h.blk.drew).set_ 2 (.int .u32 1)).set_ 3 (.int .i32 0)) (by simpa using hbg)
  · exact own_rdl (hr (intRow vN (nodesTo P T T.length)) (by simp)) (by rw [nodesTo_len (Nat.le_refl _)]; omega)
  · exact own_rdl (hr (intRow vS (slotsTo T T.length)) (by simp)) (by rw [slotsTo_len]; omega)
  · exact own_rdl (hr (intRow vM (matesTo P T T.length)) (by simp)) (by rw [matesTo_len]; omega)
  · have h1 := hr (upRow (us.map (·.v)) vU) (by simp)
    refine RdL.of_own (enc := fun v => [v]) (sz := 1) (fun _ => rfl) rfl (by rw [List.length_map, h.len]; omega) (e := 22) (base := w1.heap.size) ?_
    have e : (us.map (·.v)).flatMap (fun (v : Value) => [v]) = us.map (·.v) := by simp
    rw [e]
    exact h1
  · rw [List.getElem?_map] at hv
    cases hu : us[i]? with
    | none => rw [hu] at hv; cases hv
    | some r =>
      rw [hu] at hv
      injection hv with hv
      subst hv
      have hrr := h.up i x r hi hu
      have ho := hr r (by simp [List.mem_of_getElem? hu])
      rw [hrr] at ho
      exact own_rdl ho (by have := upL_le P x; omega)
/-- a table that outlasts the turns of blocks from lo to hi -/
def TabK (lo hi : Nat) (w : World) (b : Nat) (P T : List Int) : Prop := TabF w b P T ∧ ∀ g W', lo ≤ g → g < hi → Turns [g] w W' → TabF W' b P T
theorem rd_lo {w : World} {A : Option Addr} {c : Nat} {l : List Int} (h : RdL w (.slice A l.length c) 1 encI l) (hl : 0 < l.length) : ∀ g, (Value.slice A l.length c).ownBlock = some g → g < w.heap.size := by
  obtain ⟨A', c', e, _, _, h4⟩ := h
  obtain ⟨b, off, rfl, hb, _⟩ := h4 hl
  injection e with e _ _
  subst e
  intro g hg
  injection hg with hg
  exact hg ▸ hb
set_option maxRecDepth 100000 in
theorem found_lo (w W : World) (k : Below w.heap.size w W) (b : Nat) (P T : List Int) (hc : chkT P T = 0) (h0 : Tab0 w b P T) :
    Calls Try.prog 41 #[.pointer (some ⟨b, 0, none⟩)] W fun e w' => e = .returned (.pointer (some ⟨b, 0, none⟩)) ∧ (TabK w.heap.size W.heap.size w' b P T ∧ UpLo W w' b T) ∧ Turns [b] W w' := by
  obtain ⟨AP, cP, AT, cT, hB0, hP0, hT0, nP, nT⟩ := h0.ex
  have hbw := hB0.lt
  have hB := hB0.below k hbw
  have hP := hP0.below k (Nat.le_refl _)
  have hT := hT0.below k (Nat.le_refl _)
  have hm := many_lt (chk_ok hc).1
  have gP := rd_lo hP0 (by omega)
  have gT := rd_lo hT0 (by omega)
  have hl := hm.2.2.1
  have k0 : Turns [b] W (W.setCell ⟨b, 3, none⟩ (.int .i32 1)) := Turns.setCell (Turns.refl [b] W) (.inl (by simp)) _
  have hP1 := hP.turns k0 (fun g hg hm => by simp at hm; exact nP g hg hm)
  have hT1 := hT.turns k0 (fun g hg hm => by simp at hm; exact nT g hg hm)
  have hf := find_any (W.setCell ⟨b, 3, none⟩ (.int .i32 1)) b AP AT cP cT P T hc (hB.set_ 3 (.int .i32 1)) hP1 hT1 nP nT
  have hsz : (W.setCell ⟨b, 3, none⟩ (.int .i32 1)).heap.size = W.heap.size := by simp [World.setCell]
  have HD := Lib.hid (do_first b 2 (.pointer (some ⟨b, 0, none⟩)) W (fun w2 => (TabK w.heap.size W.heap.size (onceEnd b 2 w2) b P T ∧ UpLo W (onceEnd b 2 w2) b T) ∧ Turns [b] W (onceEnd b 2 w2)) (hB.cell 2) (hB.cell 3) (hB.free 2) (hB.free 3)
    (hf.mono fun e w2 ⟨he, vL, vU, vN, vS, vM, us, hF⟩ => ⟨he, ⟨hF.blk.cell 2, hF.blk.cell 3, hF.blk.free 2, hF.blk.free 3⟩, ⟨⟨(tab_of_find hc hF hP1 hT1 nP nT).1, fun g W' hlo hhi kg =>
      tab_of_find2 hc hF hP1 hT1 (fun g' hg' => ⟨nP g' hg', by have := gP g' hg'; omega⟩) (fun g' hg' => ⟨nT g' hg', by have := gT g' hg'; omega⟩) (by omega) (by omega) kg⟩, by
      obtain ⟨b1, cu, x, y⟩ := lo_of_find hl hF
      exact ⟨b1, cu, x, by omega⟩⟩, k0.trans (tab_of_find hc hF hP1 hT1 nP nT).2⟩))
  clear hf hP1 hT1 hB hP hT nP nT k0 hc h0 hP0 hT0 hB0
  go_enter Try.func41, Try.ntmps41
  go_wp2_with fail
  refine HD.out.mono ?_
  rintro en w' ⟨rfl, w2, hR, hw⟩
  have HR := Lib.hid (show (TabK w.heap.size W.heap.size w' b P T ∧ UpLo W w' b T) ∧ Turns [b] W w' by rw [hw]; exact hR)
  clear hR hw
  go_wp2
  go_ret
  exact ⟨rfl, HR.out⟩
/-- found, from wherever the region stands; a block that was made since is none of the table's -/
theorem found_far (w : World) (b : Nat) (P T : List Int) (h : Tab w b P T) {ki kj : Nat} {xi xj : Int} (hi : T[ki]? = some xi) (hj : T[kj]? = some xj) (W : World) (k : Below w.heap.size w W) :
    Calls Try.prog 41 #[.pointer (some ⟨b, 0, none⟩)] W fun e w1 => e = .returned (.pointer (some ⟨b, 0, none⟩)) ∧ Turns [b] W w1 ∧ ∃ b1 o1 cu Ai ci Aj cj, FarC w1 b b1 o1 cu T.length ki kj (.slice Ai (upL P xi).length ci) (.slice Aj (upL P xj).length cj) ∧ TabK w.heap.size W.heap.size w1 b P T ∧ (b1 < w.heap.size ∨ W.heap.size ≤ b1) ∧ T.length ≤ cu ∧ b1 < w1.heap.size ∧ b < w1.heap.size := by
  rcases h.2 with h0 | h0
  · refine (found_lo w W k b P T h.1 h0).mono ?_
    rintro e w1 ⟨rfl, ⟨hK, hU⟩, hT⟩
    obtain ⟨b1, o1, cu, Ai, ci, Aj, cj, hC, hRi, hRj, hcu, hb1, hbb⟩ := hK.1.farC hi hj
    refine ⟨rfl, hT, b1, o1, cu, Ai, ci, Aj, cj, hC, hK, .inr ?_, hcu, hb1, hbb⟩
    obtain ⟨b2, c2, e2, l2⟩ := hU
    rw [hC.c.1] at e2
    injection e2 with e2
    injection e2 with e2 _ _
    injection e2 with e2
    injection e2 with e2 _
    omega
  · obtain ⟨b1, o1, cu, Ai, ci, Aj, cj, hC, hRi, hRj, hcu, hb1, hbb⟩ := h0.farC hi hj
    refine (found_again W b P T (h0.below k)).mono ?_
    rintro e w1 ⟨rfl, rfl⟩
    exact ⟨rfl, Turns.refl _ _, b1, o1, cu, Ai, ci, Aj, cj, hC.below hbb hb1 k, ⟨h0.below k, fun g W' hlo _ kg => h0.below (k.trans (kg.below (by simpa using hlo) k.size))⟩, .inl hb1, hcu, Nat.lt_of_lt_of_le hb1 k.size, Nat.lt_of_lt_of_le hbb k.size⟩
/-- what a table's cells hold reads as the ways up -/
theorem TabF.rds {W : World} {b : Nat} {P T : List Int} (h : TabF W b P T) {b1 o1 cu ki kj : Nat} {xi xj : Int} {vi vj : Value} (hi : T[ki]? = some xi) (hj : T[kj]? = some xj) (hC : FarC W b b1 o1 cu T.length ki kj vi vj) : RdL W vi 1 encI (upL P xi) ∧ RdL W vj 1 encI (upL P xj) := by
  obtain ⟨b2, o2, c2, A, c, A', c', hD, h1, h2, _⟩ := h.farC hi hj
  have e := hC.c.1
  rw [hD.c.1] at e
  injection e with e
  injection e with e _ e3
  injection e with e
  injection e with e e2
  subst e e2 e3
  have f1 := hC.c.2.1
  rw [hD.c.2.1] at f1
  injection f1 with f1
  have f2 := hC.c.2.2
  rw [hD.c.2.2] at f2
  injection f2 with f2
  subst f1 f2
  exact ⟨h1, h2⟩
/-- what is left to do behind Far's region -/
def FarZ (w W3 : World) (g b : Nat) (P T : List Int) (xi xj : Int) (Ai : Option Addr) (ci : Nat) : Prop :=
  Calls Try.prog 42 #[.slice Ai (upL P xi).length ci, .func (.func 43) #[] #[.pointer (some ⟨g, 0, none⟩)]] W3 (fun e w' => e = .returned (.int .i64 (fidx (fun x => decide (x ∈ upL P xj)) (upL P xi))) ∧ W3 = w') ∧ Tab W3 b P T ∧ Turns [b] w W3
def FarS (w W : World) (b L b1 o1 cu ki kj : Nat) (vi vj : Value) : Prop := w.heap.size ≤ W.heap.size ∧ W.cell? ⟨b, 5, none⟩ = some (.slice (some ⟨b1, o1, none⟩) L cu) ∧ W.cell? ⟨b1, o1 + ki, none⟩ = some vi ∧ W.cell? ⟨b1, o1 + kj, none⟩ = some vj
/-- the region's first call; the block was made ahead of it -/
theorem far_made (w : World) (b : Nat) (P T : List Int) (h : Tab w b P T) {ki kj : Nat} {xi xj : Int} (hi : T[ki]? = some xi) (hj : T[kj]? = some xj) :
    Calls Try.prog 41 #[.pointer (some ⟨b, 0, none⟩)] (w.alloc (.cells #[.slice none 0 0] 22)).drew fun e w1 => e = .returned (.pointer (some ⟨b, 0, none⟩)) ∧ ∃ b1 o1 cu Ai ci Aj cj,
      (w1.cell? ⟨w.heap.size, 0, none⟩ = some (.slice none 0 0) ∧ w1.frozen? ⟨w.heap.size, 0, none⟩ = false ∧ w.heap.size < w1.heap.size) ∧ T.length ≤ cu ∧
      (∀ W, Turns [w.heap.size] w1 W → FarS w W b T.length b1 o1 cu ki kj (.slice Ai (upL P xi).length ci) (.slice Aj (upL P xj).length cj)) ∧
      (∀ W, Below w1.heap.size w1 W → Calls Try.prog 41 #[.pointer (some ⟨b, 0, none⟩)] W fun e w' => e = .returned (.pointer (some ⟨b, 0, none⟩)) ∧ W = w') ∧
      FarZ w (w1.setCell ⟨w.heap.size, 0, none⟩ (.slice Aj (upL P xj).length cj)) w.heap.size b P T xi xj Ai ci := by
  have hbw : b < w.heap.size := Tab.lt h
  have k0 : Below w.heap.size w (w.alloc (.cells #[.slice none 0 0] 22)).drew := ((Below.refl _ _).alloc (Nat.le_refl _) _).drew
  have hz : (w.alloc (.cells #[.slice none 0 0] 22)).drew.heap.size = w.heap.size + 1 := by simp
  refine (found_far w b P T h hi hj _ k0).mono ?_
  rintro e w1 ⟨rfl, hT, b1, o1, cu, Ai, ci, Aj, cj, hC, hK, hlo, hcu, hb1, hbb⟩
  have B8 := hT.blk (Blk.new w 22 #[.slice none 0 0]).drew (by intro hm; have hm' := List.mem_singleton.1 hm; omega)
  have hS : ∀ W, Turns [w.heap.size] w1 W → FarS w W b T.length b1 o1 cu ki kj (.slice Ai (upL P xi).length ci) (.slice Aj (upL P xj).length cj) := fun W k => by
    have hne : b ∉ [w.heap.size] := by intro hm; have hm' := List.mem_singleton.1 hm; omega
    have hne1 : b1 ∉ [w.heap.size] := by intro hm; have hm' := List.mem_singleton.1 hm; omega
    refine ⟨Nat.le_trans (by have := hT.size; omega) k.size, ?_, ?_, ?_⟩
    · rw [World.cell?_of_block (a := ⟨b, 5, none⟩) (k.block b hbb hne)]; exact hC.c.1
    · rw [World.cell?_of_block (a := ⟨b1, o1 + ki, none⟩) (k.block b1 hb1 hne1)]; exact hC.c.2.1
    · rw [World.cell?_of_block (a := ⟨b1, o1 + kj, none⟩) (k.block b1 hb1 hne1)]; exact hC.c.2.2
  refine ⟨rfl, b1, o1, cu, Ai, ci, Aj, cj, ⟨B8.cell 0, B8.free 0, B8.lt⟩, hcu, hS, fun W k => found_again W b P T (hK.1.below k), ?_⟩
  have hk : Turns [w.heap.size] w1 (w1.setCell ⟨w.heap.size, 0, none⟩ (.slice Aj (upL P xj).length cj)) := (Turns.refl _ _).setCell (.inl (by simp)) _
  have hF : TabF (w1.setCell ⟨w.heap.size, 0, none⟩ (.slice Aj (upL P xj).length cj)) b P T := hK.2 _ _ (Nat.le_refl _) (by omega) hk
  obtain ⟨y1, y2⟩ := hF.rds hi hj ⟨(hS _ hk).2⟩
  exact ⟨farF_any _ _ _ _ (upL P xj) (upL P xi) ((B8.set_ 0 _).cell 0) y2 y1, hF.tab, (((Turns.of_below k0).trans hT).mono (T := [b, w.heap.size]) (by simp)).trans (hk.mono (by simp)) |>.fresh (by simp)⟩
/-- the region's first call; the block is made behind it -/
theorem far_bare (w : World) (b : Nat) (P T : List Int) (h : Tab w b P T) {ki kj : Nat} {xi xj : Int} (hi : T[ki]? = some xi) (hj : T[kj]? = some xj) :
    Calls Try.prog 41 #[.pointer (some ⟨b, 0, none⟩)] w.drew fun e w1 => e = .returned (.pointer (some ⟨b, 0, none⟩)) ∧ ∃ b1 o1 cu Ai ci Aj cj,
      T.length ≤ cu ∧
      (∀ W, Turns [] w1 W → FarS w W b T.length b1 o1 cu ki kj (.slice Ai (upL P xi).length ci) (.slice Aj (upL P xj).length cj)) ∧
      (∀ W, Below w1.heap.size w1 W → Calls Try.prog 41 #[.pointer (some ⟨b, 0, none⟩)] W fun e w' => e = .returned (.pointer (some ⟨b, 0, none⟩)) ∧ W = w') ∧
      FarZ w (w1.alloc (.cells #[.slice Aj (upL P xj).length cj] 22)) w1.heap.size b P T xi xj Ai ci := by
  have k0 : Below w.heap.size w w.drew := (Below.refl _ _).drew
  have hz : w.drew.heap.size = w.heap.size := rfl
  refine (found_far w b P T h hi hj _ k0).mono ?_
  rintro e w1 ⟨rfl, hT, b1, o1, cu, Ai, ci, Aj, cj, hC, hK, hlo, hcu, hb1, hbb⟩
  have hS : ∀ W, Turns [] w1 W → FarS w W b T.length b1 o1 cu ki kj (.slice Ai (upL P xi).length ci) (.slice Aj (upL P xj).length cj) := fun W k => by
    refine ⟨Nat.le_trans (by have := hT.size; omega) k.size, ?_, ?_, ?_⟩
    · rw [World.cell?_of_block (a := ⟨b, 5, none⟩) (k.block b hbb (by simp))]; exact hC.c.1
    · rw [World.cell?_of_block (a := ⟨b1, o1 + ki, none⟩) (k.block b1 hb1 (by simp))]; exact hC.c.2.1
    · rw [World.cell?_of_block (a := ⟨b1, o1 + kj, none⟩) (k.block b1 hb1 (by simp))]; exact hC.c.2.2
  refine ⟨rfl, b1, o1, cu, Ai, ci, Aj, cj, hcu, hS, fun W k => found_again W b P T (hK.1.below k), ?_⟩
  have hk : Turns [] w1 (w1.alloc (.cells #[.slice Aj (upL P xj).length cj] 22)) := (Turns.refl _ _).alloc _
  have hF : TabF (w1.alloc (.cells #[.slice Aj (upL P xj).length cj] 22)) b P T := hK.1.below ((Below.refl _ _).alloc (Nat.le_refl _) _)
  obtain ⟨y1, y2⟩ := hF.rds hi hj ⟨(hS _ hk).2⟩
  exact ⟨farF_any _ _ _ _ (upL P xj) (upL P xi) ((Blk.new _ _ _).cell 0) y2 y1, hF.tab, ((Turns.of_below k0).trans hT).trans (hk.mono (by simp))⟩
set_option maxRecDepth 100000 in
set_option maxHeartbeats 4000000 in
theorem far_yes (w : World) (b : Nat) (P T : List Int) (ki kj : Nat) (xi xj : Int) (hi : T[ki]? = some xi) (hj : T[kj]? = some xj) (h : Tab w b P T) :
    Calls Try.prog 12 #[.pointer (some ⟨b, 0, none⟩), .int .i64 ki, .int .i64 kj] w (Tells w b P T (.int .i64 (fidx (fun x => decide (x ∈ upL P xj)) (upL P xi)))) := by
  have lki := (List.getElem?_eq_some_iff.1 hi).1
  have lkj := (List.getElem?_eq_some_iff.1 hj).1
  have l32 := (many_lt (chk_ok h.1).1).2.2.2
  have HI := Lib.hid (has_b w b P T ki true (decide_eq_true (by omega)) h)
  have HJ := Lib.hid (has_b w b P T kj true (decide_eq_true (by omega)) h)
  have HM := Lib.hid (far_made w b P T h hi hj)
  have HB := Lib.hid (far_bare w b P T h hi hj)
  have H := Lib.hid h
  obtain ⟨L, hL⟩ : ∃ L, L = T.length := ⟨_, rfl⟩
  rw [← hL] at lki lkj l32 HM HB
  clear h hi hj hL
  go_enter Try.func12, Try.ntmps12
  go_wp2_with fail
  refine HI.out.mono ?_
  rintro en w' ⟨rfl, rfl⟩
  go_wp2_with fail
  refine HJ.out.mono ?_
  rintro en w' ⟨rfl, rfl⟩
  go_wp2_with fail
  go_region_held3 (fun W => w.heap.size ≤ W.heap.size)
    (first | exact Nat.le_refl _ | (simp <;> omega) | exact HS.out _ (Turns.refl _ _) | exact (HS.out _ (Turns.refl _ _)).1 | exact HS.out _ ((Turns.refl _ _).alloc _) | exact HS.out _ (((Turns.refl _ _).alloc _).setCell (.inr (by simp)) _) | exact HS.out _ ((Turns.refl _ _).setCell (.inl (by simp)) _))
    (first
      | (go_at_call 41; (with_reducible refine HM.out.mono ?_); rintro en w1 ⟨rfl, b1, o1, cu, Ai, ci, Aj, cj, ⟨c8, f8, z8⟩, hcu, hS, hA, hZ⟩; have HS := Lib.hid hS; have HA := Lib.hid hA; have HZ := Lib.hid hZ; clear hS hA hZ;
         rw [shut_more (S' := fun W => FarS w W b L b1 o1 cu ki kj (.slice Ai (upL P xi).length ci) (.slice Aj (upL P xj).length cj)) (by first | exact fun _ h => h.1 | exact fun _ h => h) (by assumption)] at *; unfold FarS at *)
      | (go_at_call 41; (with_reducible refine HB.out.mono ?_); rintro en w1 ⟨rfl, b1, o1, cu, Ai, ci, Aj, cj, hcu, hS, hA, hZ⟩; have HS := Lib.hid hS; have HA := Lib.hid hA; have HZ := Lib.hid hZ; clear hS hA hZ;
         rw [shut_more (S' := fun W => FarS w W b L b1 o1 cu ki kj (.slice Ai (upL P xi).length ci) (.slice Aj (upL P xj).length cj)) (by first | exact fun _ h => h.1 | exact fun _ h => h) (by assumption)] at *; unfold FarS at *)
      | (go_at_call 41; (with_reducible refine (HA.out _ (by first | exact Below.refl _ _ | exact (Below.refl _ _).alloc (Nat.le_refl _) _)).mono ?_); rintro en w2 ⟨rfl, rfl⟩))
  all_goals
    go_wp2_with fail
    refine HZ.out.1.mono ?_
    rintro en w' ⟨rfl, rfl⟩
    go_wp2
    go_ret
    exact ⟨rfl, HZ.out.2⟩
end Go.Proofs.Ytnlpghjlhnhkeaa
