/- Joined: Fp5, Fp6, Fam1, Fam2, Fam3, Fd1, Fp1. -/
import Derived.Test.YtagajjilccjplaaGreatRows
import Derived.Test.YtagajjilccjplaaGreatMgFamilyPasses1
import Derived.Test.YtagajjilccjplaaGreatMgFamilyPasses11
section
set_option linter.unusedVariables false
set_option linter.unusedSimpArgs false
/- FamilyPasses: a world over a lock of kind cohort: the methods of locks.Lock. -/
namespace Go.Proofs.YtagajjilccjplaaGreat
open Go Go.RowKit

def ctV (xl : Nat) : Value := .iface 171 (.agg #[.iface 167 (.pointer (some ⟨xl, 0, none⟩))])
def lkP (lb : Nat) : Value := .pointer (some ⟨lb, 0, none⟩)
/-- a world, its lock, and the cohort lock that it is made of -/
structure WlIs (B : Nat → Prop) (w : World) (a g wb lb tb M : Nat) (x : Cox) (c : CoC) (P T : List Int) (st : Co) : Prop where
  co : CoIs B w a g x c P T st
  lk : Blk w lb 112 #[.int .i64 6, .int .i64 x.n, ctV x.l]
  wd : Blk w wb 58 #[.pointer (some ⟨a, 0, none⟩), .pointer (some ⟨tb, 0, none⟩), .pointer (some ⟨lb, 0, none⟩), .bool false]
  nl : lb ∉ CoS a g x
  nw : wb ∉ CoS a g x
  bd : ∀ i, CoBlk x B i ∨ i = a ∨ i = g ∨ i = lb ∨ i = wb → i < M
  hM : M ≤ w.heap.size
  nt : ¬ CoBlk x B tb ∧ tb ≠ a ∧ tb ≠ g ∧ tb ≠ lb ∧ tb ≠ wb
section
variable {B : Nat → Prop} {w w' : World} {a g wb lb tb M : Nat} {x : Cox} {c : CoC} {P T : List Int} {st st' : Co} {BB : Int}
theorem WlIs.below (h : WlIs B w a g wb lb tb M x c P T st) (t : Below w.heap.size w w') : WlIs B w' a g wb lb tb M x c P T st :=
  ⟨h.co.below t, h.lk.below t h.lk.lt, h.wd.below t h.wd.lt, h.nl, h.nw, h.bd, Nat.le_trans h.hM t.size, h.nt⟩
theorem WlIs.act (h : WlIs B w a g wb lb tb M x c P T st) (t : Turns (CoS a g x) w w') (k : CoIs B w' a g x c P T st') : WlIs B w' a g wb lb tb M x c P T st' :=
  ⟨k, t.blk h.lk h.nl, t.blk h.wd h.nw, h.nl, h.nw, h.bd, Nat.le_trans h.hM t.size, h.nt⟩
/-- blocks that are none of the lock's have turned -/
theorem CoIs.farF {S : List Nat} (h : CoIs B w a g x c P T st) (t : Turns S w w') (ha : a ∉ S) (hg : g ∉ S) (hS : ∀ i ∈ S, ¬ CoBlk x B i) : CoIs B w' a g x c P T st := by
  have ar := h.ar.turns t ha hg
  have nb : ∀ r, CoBlk x B r → r ∉ S := fun r hb hm => hS r hm hb
  obtain ⟨Z, z⟩ := h.nd
  refine ⟨h.fx, ar, t.blk h.lk (nb _ (.inl rfl)), h.tb.turns t (fun i hi hb => nb i (.inr (.inr (.inr (.inr (.inr hb))))) hi), ⟨Z, t.blk z (nb _ (.inr (.inl rfl)))⟩,
    h.sp.turns t (nb _ (.inr (.inr (.inl rfl)))),
    h.gl.oth t ar (nb _ (.inr (.inr (.inr (.inl (.inl rfl)))))) (nb _ (.inr (.inr (.inr (.inl (.inr (.inl rfl))))))) (nb _ (.inr (.inr (.inr (.inl (.inr (.inr rfl))))))),
    fun n y S' hy hS' => ?_, h.lL, h.lG, h.lS, h.sl⟩
  have hm : y ∈ x.X := List.mem_of_getElem? hy
  exact (h.lo n y S' hy hS').oth t ar (nb _ (.inr (.inr (.inr (.inr (.inl ⟨y, hm, .inl rfl⟩)))))) (nb _ (.inr (.inr (.inr (.inr (.inl ⟨y, hm, .inr (.inl rfl)⟩)))))) (nb _ (.inr (.inr (.inr (.inr (.inl ⟨y, hm, .inr (.inr rfl)⟩))))))
theorem WlIs.far {S : List Nat} (h : WlIs B w a g wb lb tb M x c P T st) (t : Turns S w w') (hS : ∀ i ∈ S, M ≤ i) : WlIs B w' a g wb lb tb M x c P T st := by
  have no : ∀ i, CoBlk x B i ∨ i = a ∨ i = g ∨ i = lb ∨ i = wb → i ∉ S := fun i hi hm => by have := h.bd i hi; have := hS i hm; omega
  exact ⟨h.co.farF t (no a (.inr (.inl rfl))) (no g (.inr (.inr (.inl rfl)))) (fun i hi hb => no i (.inl hb) hi), t.blk h.lk (no lb (.inr (.inr (.inr (.inl rfl))))), t.blk h.wd (no wb (.inr (.inr (.inr (.inr rfl))))), h.nl, h.nw, h.bd, Nat.le_trans h.hM t.size, h.nt⟩
/-- the table has turned -/
theorem WlIs.tab (h : WlIs B w a g wb lb tb M x c P T st) (t : Turns [tb] w w') : WlIs B w' a g wb lb tb M x c P T st := by
  obtain ⟨n1, n2, n3, n4, n5⟩ := h.nt
  have no : ∀ i, i ≠ tb → i ∉ [tb] := fun i hi hm => hi (by simpa using hm)
  have nb : ∀ i ∈ [tb], ¬ CoBlk x B i := fun i hi hb => by
    have e : i = tb := by simpa using hi
    rw [e] at hb
    exact n1 hb
  exact ⟨h.co.farF t (no a n2.symm) (no g n3.symm) nb, t.blk h.lk (no lb n4.symm), t.blk h.wd (no wb n5.symm), h.nl, h.nw, h.bd, Nat.le_trans h.hM t.size, h.nt⟩
theorem threadsF (h : WlIs B w a g wb lb tb M x c P T st) : Calls Tryz.prog 47 #[lkP lb] w fun e w' => e = .returned (.int .i64 x.n) ∧ w = w' := by
  have c1 : w.cell? ⟨lb, 1, none⟩ = some (.int .i64 x.n) := h.lk.cell 1
  clear h
  unfold lkP
  go_enter Tryz.func47, Tryz.ntmps47
  go_wp2
  go_ret
  exact ⟨rfl, rfl⟩
theorem hasF (h : WlIs B w a g wb lb tb M x c P T st) (i : Nat) (hi : i < x.n) : Calls Tryz.prog 95 #[lkP lb, .int .i64 i] w fun e w' => e = .returned (.bool true) ∧ w = w' := by
  have HT := Lib.hid (threadsF h)
  obtain ⟨n, hn⟩ : ∃ n, n = x.n := ⟨_, rfl⟩
  rw [← hn] at HT hi
  obtain ⟨v, hv⟩ : ∃ v, v = lkP lb := ⟨_, rfl⟩
  rw [← hv] at HT ⊢
  clear h hv hn
  have h1 : decide ((i : Int) < 0) = false := decide_eq_false (by omega)
  have h2 : (i : Int) < (n : Int) := by omega
  go_enter Tryz.func95, Tryz.ntmps95
  go_wp2_with fail
  refine HT.out.mono ?_
  rintro en w' ⟨rfl, rfl⟩
  go_wp2
  go_ret
  exact ⟨ret_bool (by simp [h2]), rfl⟩
set_option maxHeartbeats 1000000 in
theorem spotF (h : WlIs B w a g wb lb tb M x c P T st) (i : Nat) (hi : i < x.n) :
    Calls Tryz.prog 67 #[lkP lb, .int .i64 i] w fun e w' => e = .returned (spotV (sv st.T i)) ∧ Below w.heap.size w w' := by
  have b1 := (Below.refl w.heap.size w).alloc (Nat.le_refl _) (.cells #[.int .i64 0, .int .i64 0, .int .i64 0, .int .i64 0] 145)
  have h1 := h.below b1
  have c1 : (w.alloc (.cells #[.int .i64 0, .int .i64 0, .int .i64 0, .int .i64 0] 145)).cell? ⟨lb, 2, none⟩ = some (ctV x.l) := h1.lk.cell 2
  unfold ctV at c1
  have HM := Lib.hid (hasF h1 i hi)
  have HS := Lib.hid (spotCo h1.co i hi)
  have HB := Lib.hid b1
  obtain ⟨p, hp⟩ : ∃ p, p = sv st.T i := ⟨_, rfl⟩
  rw [← hp] at HS ⊢
  clear h h1 b1 hp
  unfold lkP at HM ⊢
  go_enter Tryz.func67, Tryz.ntmps67
  go_wp2_with fail
  refine HM.out.mono ?_
  rintro en w1 ⟨rfl, rfl⟩
  go_wp2_with fail
  refine HS.out.mono ?_
  rintro en w2 ⟨rfl, b2⟩
  have hs : w.heap.size < w2.heap.size := by have := b2.size; simp at this; omega
  have hb : Blk w2 w.heap.size 145 #[.int .i64 0, .int .i64 0, .int .i64 0, .int .i64 0] := Turns.blk (S := []) (Turns.of_below b2) (Blk.new w 145 #[.int .i64 0, .int .i64 0, .int .i64 0, .int .i64 0]) (by simp)
  have z0 := hb.cell 0
  have z1 := hb.cell 1
  have z2 := hb.cell 2
  have z3 := hb.cell 3
  have f0 := hb.free 0
  have f1 := hb.free 1
  have f2 := hb.free 2
  have f3 := hb.free 3
  have H2 := Lib.hid (And.intro b2 hb)
  clear b2 hb
  obtain ⟨pc, u, b, z⟩ := p
  unfold spotV
  go_wp2
  exact bodyPost_ret (results_cell_row (by rfl) _ _ w.heap.size 145 _ (0, 0) _ (by rfl) (by exact ((((H2.out.2.set_ 0 _).set_ 1 _).set_ 2 _).set_ 3 _)) Tryz.underlying145 rfl (by kernel_rfl)) rfl ⟨rfl, ((((HB.out.trans (H2.out.1.mono (by simp))).setCell (Nat.le_refl _) _).setCell (Nat.le_refl _) _).setCell (Nat.le_refl _) _).setCell (Nat.le_refl _) _⟩
/-- what a thread is at, by how far it is -/
def stN (pc : Int) : Int := if pc = 0 then 0 else if pc < 10 then 1 else if pc = 10 then 2 else 3
theorem stateF (h : WlIs B w a g wb lb tb M x c P T st) (i : Nat) (hi : i < x.n) :
    Calls Tryz.prog 41 #[lkP lb, .int .i64 i] w fun e w' => e = .returned (.int .i64 (stN (sv st.T i).pc)) ∧ Below w.heap.size w w' := by
  have hfield := field_pc
  have HS := Lib.hid (spotF h i hi)
  obtain ⟨p, hp⟩ : ∃ p, p = sv st.T i := ⟨_, rfl⟩
  rw [← hp] at HS ⊢
  obtain ⟨v, hv⟩ : ∃ v, v = lkP lb := ⟨_, rfl⟩
  rw [← hv] at HS ⊢
  clear h hp hv
  obtain ⟨pc, u, b, z⟩ := p
  unfold spotV at HS
  unfold stN
  simp only
  by_cases h0 : pc = 0
  · subst h0
    rw [if_pos rfl]
    go_enter Tryz.func41, Tryz.ntmps41
    go_wp2_with fail
    refine HS.out.mono ?_
    rintro en w1 ⟨rfl, b1⟩
    have HB := Lib.hid b1
    clear b1
    go_wp2
    go_ret
    exact ⟨rfl, HB.out⟩
  by_cases h1 : pc < 10
  · rw [if_neg h0, if_pos h1]
    have t0 : (pc == 0) = false := by simpa using h0
    go_enter Tryz.func41, Tryz.ntmps41
    go_wp2_with fail
    refine HS.out.mono ?_
    rintro en w1 ⟨rfl, b1⟩
    have HB := Lib.hid b1
    clear b1
    go_wp2
    go_ret
    exact ⟨rfl, HB.out⟩
  by_cases h2 : pc = 10
  · subst h2
    rw [if_neg h0, if_neg h1, if_pos rfl]
    go_enter Tryz.func41, Tryz.ntmps41
    go_wp2_with fail
    refine HS.out.mono ?_
    rintro en w1 ⟨rfl, b1⟩
    have HB := Lib.hid b1
    clear b1
    go_wp2
    go_ret
    exact ⟨rfl, HB.out⟩
  · rw [if_neg h0, if_neg h1, if_neg h2]
    have t0 : (pc == 0) = false := by simpa using h0
    have t2 : (pc == 10) = false := by simpa using h2
    go_enter Tryz.func41, Tryz.ntmps41
    go_wp2_with fail
    refine HS.out.mono ?_
    rintro en w1 ⟨rfl, b1⟩
    have HB := Lib.hid b1
    clear b1
    go_wp2
    go_ret
    exact ⟨rfl, HB.out⟩
theorem sharesF (w : World) : Calls Tryz.prog 35 #[.int .i64 6] w fun e w' => e = .returned (.bool false) ∧ w = w' := by
  go_enter Tryz.func35, Tryz.ntmps35
  go_wp2
  go_ret
  exact ⟨rfl, rfl⟩
theorem readsF (h : WlIs B w a g wb lb tb M x c P T st) (i : Nat) (hi : i < x.n) :
    Calls Tryz.prog 42 #[lkP lb, .int .i64 i] w fun e w' => e = .returned (.bool false) ∧ Below w.heap.size w w' := by
  have HS := Lib.hid (stateF h i hi)
  have HK := Lib.hid (fun w' (b : Below w.heap.size w w') => show w'.cell? ⟨lb, 0, none⟩ = some (.int .i64 6) from (h.below b).lk.cell 0)
  obtain ⟨z, hz⟩ : ∃ z, z = stN (sv st.T i).pc := ⟨_, rfl⟩
  rw [← hz] at HS
  clear h hz
  unfold lkP at HS ⊢
  by_cases h0 : z = 0
  · subst h0
    go_enter Tryz.func42, Tryz.ntmps42
    go_wp2_with fail
    refine HS.out.mono ?_
    rintro en w1 ⟨rfl, b1⟩
    have HB := Lib.hid b1
    clear b1
    go_wp2
    go_ret
    exact ⟨rfl, HB.out⟩
  · have t0 : (z != 0) = true := by simpa using h0
    go_enter Tryz.func42, Tryz.ntmps42
    go_wp2_with fail
    refine HS.out.mono ?_
    rintro en w1 ⟨rfl, b1⟩
    have c0 := HK.out _ b1
    have HB := Lib.hid b1
    clear b1
    go_wp2_with fail
    refine (sharesF _).mono ?_
    rintro en w2 ⟨rfl, rfl⟩
    go_wp2
    go_ret
    exact ⟨rfl, HB.out⟩
end
end Go.Proofs.YtagajjilccjplaaGreat
end
section
set_option linter.unusedVariables false
set_option linter.unusedSimpArgs false
/- FamilyPasses: a world over a lock of kind cohort: steps, asks, leaves. -/
namespace Go.Proofs.YtagajjilccjplaaGreat
open Go Go.RowKit

section
variable {B : Nat → Prop} {w w' : World} {a g wb lb tb M : Nat} {x : Cox} {c : CoC} {P T : List Int} {st st' : Co} {BB : Int}
/-- what an act of the world does: its value, the lock behind it, what turned -/
def WlAct (B : Nat → Prop) (w : World) (a g wb lb tb M : Nat) (x : Cox) (c : CoC) (P T : List Int) (st' : Co) (v : Value) (e : Ending) (w' : World) : Prop :=
  e = .returned v ∧ WlIs B w' a g wb lb tb M x c P T st' ∧ Turns (CoS a g x) w w'
theorem stepF (h : WlIs B w a g wb lb tb M x c P T st) (C : CoPre BB x c st) (i : Nat) (hi : i < x.n) :
    Calls Tryz.prog 69 #[lkP lb, .int .i64 i] w (WlAct B w a g wb lb tb M x c P T (coStep c st i) (.bool (cameK (sv st.T i) (sv (coStep c st i).T i)))) := by
  have c2 : w.cell? ⟨lb, 2, none⟩ = some (ctV x.l) := h.lk.cell 2
  unfold ctV at c2
  have HM := Lib.hid (hasF h i hi)
  have HS := Lib.hid (stepCo h.co C i hi)
  have H := Lib.hid h
  obtain ⟨r, hr⟩ : ∃ r, r = cameK (sv st.T i) (sv (coStep c st i).T i) := ⟨_, rfl⟩
  rw [← hr] at HS ⊢
  clear h hr
  unfold lkP at HM ⊢
  go_enter Tryz.func69, Tryz.ntmps69
  go_wp2_with fail
  refine HM.out.mono ?_
  rintro en w1 ⟨rfl, rfl⟩
  go_wp2_with fail
  refine HS.out.mono ?_
  rintro en w2 ⟨rfl, k2, t2⟩
  have K2 := Lib.hid (And.intro (H.out.act t2 k2) t2)
  clear k2 t2
  go_wp2
  go_ret
  exact ⟨rfl, K2.out.1, K2.out.2⟩
theorem leaveF (h : WlIs B w a g wb lb tb M x c P T st) (i : Nat) (hi : i < x.n) :
    Calls Tryz.prog 72 #[lkP lb, .int .i64 i] w (WlAct B w a g wb lb tb M x c P T (coLeave st i) (.bool (decide ((sv st.T i).pc = 10)))) := by
  have c2 : w.cell? ⟨lb, 2, none⟩ = some (ctV x.l) := h.lk.cell 2
  unfold ctV at c2
  have HM := Lib.hid (hasF h i hi)
  have HS := Lib.hid (leaveCo h.co i hi)
  have H := Lib.hid h
  obtain ⟨r, hr⟩ : ∃ r, r = decide ((sv st.T i).pc = 10) := ⟨_, rfl⟩
  rw [← hr] at HS ⊢
  clear h hr
  unfold lkP at HM ⊢
  go_enter Tryz.func72, Tryz.ntmps72
  go_wp2_with fail
  refine HM.out.mono ?_
  rintro en w1 ⟨rfl, rfl⟩
  go_wp2_with fail
  refine HS.out.mono ?_
  rintro en w2 ⟨rfl, k2, t2⟩
  have K2 := Lib.hid (And.intro (H.out.act t2 k2) t2)
  clear k2 t2
  go_wp2
  go_ret
  exact ⟨rfl, K2.out.1, K2.out.2⟩
theorem askC (h : WlIs B w a g wb lb tb M x c P T st) (i : Nat) (hi : i < x.n) :
    Calls Tryz.prog 207 #[.agg #[.iface 167 (.pointer (some ⟨x.l, 0, none⟩))], .int .i64 i, .bool false] w (WlAct B w a g wb lb tb M x c P T (coAsk c st i) (.bool (decide ((sv st.T i).pc = 0)))) := by
  have h1 := h.below ((Below.refl w.heap.size w).alloc (Nat.le_refl _) (.cells #[.iface 167 (.pointer (some ⟨x.l, 0, none⟩))] 171))
  have HS := Lib.hid (askCo h1.co i hi)
  have H := Lib.hid h1
  obtain ⟨r, hr⟩ : ∃ r, r = decide ((sv st.T i).pc = 0) := ⟨_, rfl⟩
  rw [← hr] at HS ⊢
  clear h h1 hr
  go_enter Tryz.func207, Tryz.ntmps207
  go_wp2_with fail
  refine HS.out.mono ?_
  rintro en w2 ⟨rfl, k2, t2⟩
  have K2 := Lib.hid (And.intro (H.out.act t2 k2) (((Turns.refl (CoS a g x) w).alloc _).trans t2))
  clear k2 t2
  go_wp2
  go_ret
  exact ⟨rfl, K2.out.1, K2.out.2⟩
theorem askF (h : WlIs B w a g wb lb tb M x c P T st) (i : Nat) (hi : i < x.n) :
    Calls Tryz.prog 71 #[lkP lb, .int .i64 i, .bool false] w (WlAct B w a g wb lb tb M x c P T (coAsk c st i) (.bool (decide ((sv st.T i).pc = 0)))) := by
  have c2 : w.cell? ⟨lb, 2, none⟩ = some (ctV x.l) := h.lk.cell 2
  unfold ctV at c2
  have HM := Lib.hid (hasF h i hi)
  have HS := Lib.hid (askC h i hi)
  have H := Lib.hid h
  obtain ⟨r, hr⟩ : ∃ r, r = decide ((sv st.T i).pc = 0) := ⟨_, rfl⟩
  rw [← hr] at HS ⊢
  clear h hr
  unfold lkP at HM ⊢
  go_enter Tryz.func71, Tryz.ntmps71
  go_wp2_with fail
  refine HM.out.mono ?_
  rintro en w1 ⟨rfl, rfl⟩
  go_wp2_with fail
  refine HS.out.mono ?_
  rintro en w2 ⟨rfl, k2, t2⟩
  have K2 := Lib.hid (And.intro k2 t2)
  clear k2 t2
  go_wp2
  go_ret
  exact ⟨rfl, K2.out.1, K2.out.2⟩
/-- which entry of its tenure -/
def cntN (p : Sp) : Int := if p.pc = 10 then p.a else 0
theorem countCo (h : WlIs B w a g wb lb tb M x c P T st) (i : Nat) (hi : i < x.n) :
    Calls Tryz.prog 192 #[.pointer (some ⟨x.l, 0, none⟩), .int .i64 i] w fun e w' => e = .returned (.int .i64 (cntN (sv st.T i))) ∧ Below w.heap.size w w' := by
  have hfield := field_pc
  have HS := Lib.hid (fun w' (b : Below w.heap.size w w') => spotCo (h.co.below b) i hi)
  obtain ⟨p, hp⟩ : ∃ p, p = sv st.T i := ⟨_, rfl⟩
  rw [← hp] at HS ⊢
  clear h hp
  obtain ⟨pc, u, b, z⟩ := p
  unfold spotV at HS
  unfold cntN
  simp only
  by_cases h0 : pc = 10
  · subst h0
    rw [if_pos rfl]
    go_enter Tryz.func192, Tryz.ntmps192
    go_wp2_with fail
    refine (HS.out _ (Below.refl _ _)).mono ?_
    rintro en w1 ⟨rfl, b1⟩
    have HB := Lib.hid (((((b1.alloc b1.size (.cells #[.int .i64 10, .int .i64 u, .int .i64 b, .int .i64 z] 145))))))
    clear b1
    go_wp2
    go_ret
    exact ⟨rfl, HB.out⟩
  · rw [if_neg h0]
    have t0 : (pc != 10) = true := by simpa using h0
    go_enter Tryz.func192, Tryz.ntmps192
    go_wp2_with fail
    refine (HS.out _ (Below.refl _ _)).mono ?_
    rintro en w1 ⟨rfl, b1⟩
    have HB := Lib.hid (((((b1.alloc b1.size (.cells #[.int .i64 pc, .int .i64 u, .int .i64 b, .int .i64 z] 145))))))
    clear b1
    go_wp2
    go_ret
    exact ⟨rfl, HB.out⟩
theorem countF (h : WlIs B w a g wb lb tb M x c P T st) (i : Nat) (hi : i < x.n) :
    Calls Tryz.prog 70 #[lkP lb, .int .i64 i] w fun e w' => e = .returned (.int .i64 (cntN (sv st.T i))) ∧ Below w.heap.size w w' := by
  have c2 : w.cell? ⟨lb, 2, none⟩ = some (ctV x.l) := h.lk.cell 2
  unfold ctV at c2
  have HM := Lib.hid (hasF h i hi)
  have HS := Lib.hid (countCo h i hi)
  obtain ⟨r, hr⟩ : ∃ r, r = cntN (sv st.T i) := ⟨_, rfl⟩
  rw [← hr] at HS ⊢
  clear h hr
  unfold lkP at HM ⊢
  go_enter Tryz.func70, Tryz.ntmps70
  go_wp2_with fail
  refine HM.out.mono ?_
  rintro en w1 ⟨rfl, rfl⟩
  go_wp2_with fail
  refine HS.out.mono ?_
  rintro en w2 ⟨rfl, b2⟩
  have HB := Lib.hid b2
  clear b2
  go_wp2
  go_ret
  exact ⟨rfl, HB.out⟩
set_option maxHeartbeats 1000000 in
theorem stateW (h : WlIs B w a g wb lb tb M x c P T st) (i : Nat) (hi : i < x.n) :
    Calls Tryz.prog 14 #[.pointer (some ⟨wb, 0, none⟩), .int .i64 i] w fun e w' => e = .returned (.tuple #[.int .i64 (stN (sv st.T i).pc), .bool false]) ∧ Below w.heap.size w w' := by
  have c2 : w.cell? ⟨wb, 2, none⟩ = some (lkP lb) := h.wd.cell 2
  unfold lkP at c2
  have HC : Hid (∀ W, Below w.heap.size w W → W.cell? ⟨wb, 2, none⟩ = some (.pointer (some ⟨lb, 0, none⟩))) := Lib.hid fun W b => (h.below b).wd.cell 2
  have HS := Lib.hid (fun W (b : Below w.heap.size w W) => show Calls Tryz.prog 41 #[.pointer (some ⟨lb, 0, none⟩), .int .i64 i] W fun e w' => e = .returned (.int .i64 (stN (sv st.T i).pc)) ∧ Below W.heap.size W w' from stateF (h.below b) i hi)
  have HR := Lib.hid (fun W (b : Below w.heap.size w W) => show Calls Tryz.prog 42 #[.pointer (some ⟨lb, 0, none⟩), .int .i64 i] W fun e w' => e = .returned (.bool false) ∧ Below W.heap.size W w' from readsF (h.below b) i hi)
  obtain ⟨z, hz⟩ : ∃ z, z = stN (sv st.T i).pc := ⟨_, rfl⟩
  rw [← hz] at HS ⊢
  clear h hz
  have K := Lib.hid (show Below w.heap.size w w.drew from (Below.refl _ _).drew)
  go_enter Tryz.func14, Tryz.ntmps14
  go_wp2_with fail
  go_region_held3 (fun W => W.cell? ⟨wb, 2, none⟩ = some (.pointer (some ⟨lb, 0, none⟩)))
    (first | with_reducible exact HC.out _ K.out)
    (first
      | (go_at_call 41; go_loud (refine (HS.out _ K.out).mono ?_); rintro en w2 ⟨rfl, b2⟩; have K := Lib.hid (K.out.trans (b2.mono K.out.size)); clear b2)
      | (go_at_call 42; go_loud (refine (HR.out _ K.out).mono ?_); rintro en w3 ⟨rfl, b3⟩; have K := Lib.hid (K.out.trans (b3.mono K.out.size)); clear b3))
  all_goals
    go_wp2
    go_ret2
    exact ⟨rfl, K.out⟩
end
end Go.Proofs.YtagajjilccjplaaGreat
end
section
set_option linter.unusedVariables false
set_option linter.unusedSimpArgs false
/- Layer 45: what budget.Right, family.out and family.Size compute; the closure that adds picks. -/
namespace Go.Proofs.YtagajjilccjplaaGreat
open Go.RowKit

def outN (b : Int) : Nat := if 0 < b then 6 else 5
def sizeN (b m : Int) : Int := if b < 0 ∨ 1000 < b ∨ m < 0 ∨ 4000 < m then 0 else if 4000 < 4 + m * (9 + (outN b : Int)) + 4 then 0 else 4 + m * (9 + (outN b : Int)) + 4

theorem out_any (b : Int) (w : World) : Calls Tryz.prog 31 #[.int .i64 b] w fun e w' => e = .returned (.int .i64 (outN b : Int)) ∧ w = w' := by
  by_cases h : 0 < b
  · go_enter Tryz.func31, Tryz.ntmps31
    go_wp2
    go_ret
    exact ⟨ret_int (by simp [outN, h]), rfl⟩
  · go_enter Tryz.func31, Tryz.ntmps31
    go_wp2
    go_ret
    exact ⟨ret_int (by unfold outN; rw [if_neg (by omega)]; rfl), rfl⟩

theorem right_yes (b : Int) (w : World) (h0 : 0 ≤ b) (h1 : b ≤ 1000) : Calls Tryz.prog 28 #[.int .i64 b] w fun e w' => e = .returned (.bool true) ∧ w = w' := by
  go_enter Tryz.func28, Tryz.ntmps28
  go_wp2
  go_ret
  exact ⟨rfl, rfl⟩
theorem right_no (b : Int) (w : World) (h : b < 0 ∨ 1000 < b) : Calls Tryz.prog 28 #[.int .i64 b] w fun e w' => e = .returned (.bool false) ∧ w = w' := by
  rcases h with h | h
  · go_enter Tryz.func28, Tryz.ntmps28
    go_wp2
    go_ret
    exact ⟨rfl, rfl⟩
  · have h0 : 0 ≤ b := by omega
    have h1 : ¬ b ≤ 1000 := by omega
    go_enter Tryz.func28, Tryz.ntmps28
    go_wp2
    go_ret
    exact ⟨rfl, rfl⟩

set_option maxHeartbeats 400000 in
theorem size_any (b m : Int) (w : World) : Calls Tryz.prog 29 #[.int .i64 b, .int .i64 m] w fun e w' => e = .returned (.int .i64 (sizeN b m)) ∧ w = w' := by
  by_cases hb : b < 0 ∨ 1000 < b
  · go_enter Tryz.func29, Tryz.ntmps29
    go_wp2_with (go_at_call 28; refine (right_no _ _ hb).mono ?_; rintro e w' ⟨rfl, rfl⟩)
    go_ret
    exact ⟨ret_int (by unfold sizeN; rw [if_pos (by omega)]), rfl⟩
  · have h0 : 0 ≤ b := by omega
    have h1 : b ≤ 1000 := by omega
    clear hb
    by_cases m0 : m < 0
    · go_enter Tryz.func29, Tryz.ntmps29
      go_wp2_with (go_at_call 28; refine (right_yes _ _ h0 h1).mono ?_; rintro e w' ⟨rfl, rfl⟩)
      go_ret
      exact ⟨ret_int (by unfold sizeN; rw [if_pos (by omega)]), rfl⟩
    · by_cases m1 : 4000 < m
      · go_enter Tryz.func29, Tryz.ntmps29
        go_wp2_with (go_at_call 28; refine (right_yes _ _ h0 h1).mono ?_; rintro e w' ⟨rfl, rfl⟩)
        go_ret
        exact ⟨ret_int (by unfold sizeN; rw [if_pos (by omega)]), rfl⟩
      · obtain ⟨o, ho, ho2⟩ : ∃ o : Nat, o = outN b ∧ o ≤ 6 := ⟨_, rfl, by unfold outN; split <;> omega⟩
        have hn : sizeN b m = if 4000 < 4 + m * (9 + (o : Int)) + 4 then 0 else 4 + m * (9 + (o : Int)) + 4 := by
          unfold sizeN; rw [if_neg (by omega), ho]
        have hmul : 0 ≤ m * (9 + (o : Int)) ∧ m * (9 + (o : Int)) ≤ 4000 * 15 := ⟨Int.mul_nonneg (by omega) (by omega), Int.mul_le_mul (by omega) (by omega) (by omega) (by omega)⟩
        obtain ⟨hm1, hm2⟩ := hmul
        have HN := Lib.hid hn
        have HO := Lib.hid ho
        clear hn ho
        have OUT : ∀ w, Calls Tryz.prog 31 #[.int .i64 b] w fun e w' => e = .returned (.int .i64 (o : Int)) ∧ w = w' := fun w => by rw [HO.out]; exact out_any b w
        have OUTH := Lib.hid OUT
        clear OUT
        by_cases hs : 4000 < 4 + m * (9 + (o : Int)) + 4
        all_goals
          go_enter Tryz.func29, Tryz.ntmps29
          go_wp2_with (first | (go_at_call 28; refine (right_yes _ _ h0 h1).mono ?_; rintro e w' ⟨rfl, rfl⟩) | (go_at_call 31; refine (OUTH.out _).mono ?_; rintro e w' ⟨rfl, rfl⟩))
          go_ret
        · exact ⟨ret_int (by rw [HN.out, if_pos hs]), rfl⟩
        · exact ⟨ret_int (by rw [HN.out, if_neg (by omega)]), rfl⟩
end Go.Proofs.YtagajjilccjplaaGreat
end
section
set_option linter.unusedVariables false
set_option linter.unusedSimpArgs false
/- Layer 45: the closure of family.Script: it appends picks to the slice in a captured variable. -/
namespace Go.Proofs.YtagajjilccjplaaGreat
open Go.RowKit

theorem Tryz.infoPick : (Tryz.prog.info? 53).map (fun i => (i.zero, i.size, i.bytes)) = some (some (.agg #[.int .i64 0, .int .i64 0]), 2, 16) := by kernel_rfl

/-- what a call of add lays behind the picks -/
def addL (t want : Int) (steps : Nat) : List (Int × Int) := (if want = 0 then [] else [(t, want)]) ++ List.replicate steps (t, 0)

/-- the captured variable at block B holds a slice of the call's own that reads as l -/
def Cap (w : World) (B base : Nat) (l : List (Int × Int)) : Prop :=
  ∃ v, w.heap[B]? = some (.cells #[v] 23 (0, 0)) ∧ w.ownsRow base 53 2 v l.length (l.flatMap encP) ∧ B < base ∧ base ≤ w.heap.size

theorem pick_cells (w : World) (x y : Int) : ∀ j u, (encP (x, y))[j]? = some u → (w.alloc (.cells #[.int .i64 x, .int .i64 y] 53)).cell? ((⟨w.heap.size, 0, none⟩ : Addr).add j) = some u := by
  intro j u hu
  have hadd : (⟨w.heap.size, 0, none⟩ : Addr).add j = ⟨w.heap.size, j, none⟩ := by unfold Addr.add; split <;> simp_all
  rw [hadd, cell_of_row (w.alloc _) w.heap.size j _ _ (0, 0) (heap_alloc_new w _)]
  simpa [encP] using hu
theorem pick_one (x y : Int) : ∀ u ∈ encP (x, y), u.oneCell' = true := by
  intro u hu; simp [encP] at hu; rcases hu with rfl | rfl <;> rfl

/-- one pick appended, and the variable written: what the walk needs and what is left -/
theorem cap_add {w w2 : World} {B base : Nat} {l : List (Int × Int)} {v v' : Value} {x y : Int} {o : Obj}
    (hB : w.heap[B]? = some (.cells #[v] 23 (0, 0))) (hown : w.ownsRow base 53 2 v l.length (l.flatMap encP)) (hlt : B < base) (hle : base ≤ w.heap.size)
    (h2 : w2.ownsRow base 53 2 v' (l.length + 1) (l.flatMap encP ++ encP (x, y))) (hg : (w.alloc o).grownBy w2 v.ownBlock) :
    w2.heap[B]? = some (.cells #[v] 23 (0, 0)) ∧ Cap (w2.setCell ⟨B, 0, none⟩ v') B base (l ++ [(x, y)]) ∧ Below B w (w2.setCell ⟨B, 0, none⟩ v') := by
  have hr : ∀ k, v.ownBlock = some k → B < k := fun k hk => by have := (hown.lt k hk).1; omega
  have hne : some B ≠ v.ownBlock := fun e => by have := hr B e.symm; omega
  have hb2 : w2.heap[B]? = some (.cells #[v] 23 (0, 0)) := by
    rw [hg.block B (by simp; omega) hne, Below.heap_alloc _ _ _ (by omega)]
    exact hB
  have hs2 : w.heap.size + 1 ≤ w2.heap.size := by have := hg.size; simpa using this
  refine ⟨hb2, ⟨v', one_setCell hb2, ?_, hlt, by simp [World.setCell]; omega⟩, ?_⟩
  · have h3 := ownsRow_setCell_below h2 (a := ⟨B, 0, none⟩) hlt v'
    simpa [List.flatMap_append, List.flatMap_cons] using h3
  · exact (((Below.refl B w).alloc (by omega) o).grown hg (by simp; omega) (fun k hk => by have := hr k hk; omega)).setCell (Nat.le_refl _) v'

/-- the loop of add, from any list on -/
theorem rep_snoc (l : List (Int × Int)) (k : Nat) (x : Int × Int) : l ++ List.replicate (k + 1) x = (l ++ List.replicate k x) ++ [x] := by
  rw [List.replicate_succ', List.append_assoc]

set_option maxHeartbeats 1000000 in
theorem addF_any (w0 : World) (B base : Nat) (l : List (Int × Int)) (t want : Int) (steps : Nat) (hc : Cap w0 B base l) (hl : l.length + steps ≤ 5000) :
    Calls Tryz.prog 30 #[.int .i64 t, .int .i64 want, .int .i64 (steps : Int), .pointer (some ⟨B, 0, none⟩)] w0 fun e w' => e = .returned (.tuple #[]) ∧ Cap w' B base (l ++ addL t want steps) ∧ Below B w0 w' := by
  obtain ⟨i0, hi, hz0, hz1, hz2⟩ := info_parts Tryz.infoPick
  by_cases hw : want = 0
  · subst hw
    go_enter Tryz.func30, Tryz.ntmps30
    go_wp2
    go_loopw [16] (fun i w => ∃ k : Nat, k ≤ steps ∧ i = .int .i64 k ∧ Cap w B base (l ++ List.replicate k (t, 0)) ∧ Below B w0 w) (fun i _ => steps - (intOf i).toNat)
    case atStart => exact ⟨0, by omega, rfl, by simpa using hc, Below.refl _ _⟩
    case round =>
      obtain ⟨k, hk, rfl, hcap, hbel⟩ := hrel
      by_cases hlt : k < steps
      · obtain ⟨m, hm⟩ : ∃ m, m = l ++ List.replicate k (t, (0 : Int)) := ⟨_, rfl⟩
        have hml : m.length ≤ 5000 := by rw [hm]; simp; omega
        rw [← hm] at hcap
        have HM := Lib.hid hm
        clear hm
        obtain ⟨v, hB, hown, hlt2, hle⟩ := hcap
        have hcB := cell_of_one hB
        have hfB := free_of_one hB
        have hBs : B < wr.heap.size := by omega
        go_wp2_with (at_builtin; refine wpList_append_own _ rfl _ _ 23 rfl base 53 i0 (.agg #[.int .i64 0, .int .i64 0]) 2 16 Tryz.underlying23 hi hz0 hz1 hz2 rfl (by decide) _ _ _ rfl (hown.alloc _) ⟨wr.heap.size, 0, none⟩ 1 1 (encP (t, 0)) rfl rfl (pick_cells wr t 0) (pick_one t 0) ?c3 ?c4 ?c5 ?_)
        case c3 => unfold maxLen; omega
        case c4 => omega
        case c5 => simp; omega
        intro v' w2 h2 hg _
        obtain ⟨A', c', rfl⟩ := own_form h2
        obtain ⟨hb2, hcap', hbel'⟩ := cap_add hB hown hlt2 hle h2 hg
        have hc2 := cell_of_one hb2
        have hf2 := free_of_one hb2
        clear hcB hfB
        go_wp2
        go_roundw
        case rel => exact ⟨k + 1, by omega, by go_num, by rw [rep_snoc, ← HM.out]; exact hcap', hbel.trans hbel'⟩
        case measure => simp [intOf]; omega
      · obtain rfl : k = steps := by omega
        go_wp2
        go_end0
        exact ⟨rfl, by simpa [addL] using hcap, hbel⟩
  · have hwb : (want == 0) = false := by simpa using hw
    have hwb2 : (want != 0) = true := by simpa using hw
    obtain ⟨v, hB, hown, hlt2, hle⟩ := hc
    have hcB := cell_of_one hB
    have hfB := free_of_one hB
    have hBs : B < w0.heap.size := by omega
    go_enter Tryz.func30, Tryz.ntmps30
    go_wp2_with (at_builtin; refine wpList_append_own _ rfl _ _ 23 rfl base 53 i0 (.agg #[.int .i64 0, .int .i64 0]) 2 16 Tryz.underlying23 hi hz0 hz1 hz2 rfl (by decide) _ _ _ rfl (hown.alloc _) ⟨w0.heap.size, 0, none⟩ 1 1 (encP (t, want)) rfl rfl (pick_cells w0 t want) (pick_one t want) ?c3 ?c4 ?c5 ?_)
    case c3 => unfold maxLen; omega
    case c4 => omega
    case c5 => simp; omega
    intro v' w2 h2 hg _
    obtain ⟨A', c', rfl⟩ := own_form h2
    obtain ⟨hb2, hcap1, hbel1⟩ := cap_add hB hown hlt2 hle h2 hg
    have hc2 := cell_of_one hb2
    have hf2 := free_of_one hb2
    have HF := Lib.hid (And.intro hcap1 hbel1)
    clear hcB hfB hcap1 hbel1 hB hown h2 hg hb2
    go_wp2
    go_loopw [16] (fun i w => ∃ k : Nat, k ≤ steps ∧ i = .int .i64 k ∧ Cap w B base ((l ++ [(t, want)]) ++ List.replicate k (t, 0)) ∧ Below B w0 w) (fun i _ => steps - (intOf i).toNat)
    case atStart => exact ⟨0, by omega, rfl, by simpa using HF.out.1, HF.out.2⟩
    case round =>
      obtain ⟨k, hk, rfl, hcap, hbel⟩ := hrel
      clear HF hc2 hf2
      by_cases hlt : k < steps
      · obtain ⟨m, hm⟩ : ∃ m, m = (l ++ [(t, want)]) ++ List.replicate k (t, (0 : Int)) := ⟨_, rfl⟩
        have hml : m.length ≤ 5001 := by rw [hm]; simp; omega
        rw [← hm] at hcap
        have HM := Lib.hid hm
        clear hm
        obtain ⟨v, hB, hown, hlt2, hle⟩ := hcap
        have hcB := cell_of_one hB
        have hfB := free_of_one hB
        have hBs : B < wr.heap.size := by omega
        go_wp2_with (at_builtin; refine wpList_append_own _ rfl _ _ 23 rfl base 53 i0 (.agg #[.int .i64 0, .int .i64 0]) 2 16 Tryz.underlying23 hi hz0 hz1 hz2 rfl (by decide) _ _ _ rfl (hown.alloc _) ⟨wr.heap.size, 0, none⟩ 1 1 (encP (t, 0)) rfl rfl (pick_cells wr t 0) (pick_one t 0) ?d3 ?d4 ?d5 ?_)
        case d3 => unfold maxLen; omega
        case d4 => omega
        case d5 => simp; omega
        intro v' w2 h2 hg _
        obtain ⟨A', c', rfl⟩ := own_form h2
        obtain ⟨hb2, hcap', hbel'⟩ := cap_add hB hown hlt2 hle h2 hg
        have hc2 := cell_of_one hb2
        have hf2 := free_of_one hb2
        clear hcB hfB
        go_wp2
        go_roundw
        case rel => exact ⟨k + 1, by omega, by go_num, by rw [rep_snoc, ← HM.out]; exact hcap', hbel.trans hbel'⟩
        case measure => simp [intOf]; omega
      · obtain rfl : k = steps := by omega
        go_wp2
        go_end0
        exact ⟨rfl, by simpa [addL, hw, List.append_assoc] using hcap, hbel⟩
end Go.Proofs.YtagajjilccjplaaGreat
end
section
set_option linter.unusedVariables false
set_option linter.unusedSimpArgs false
/- Layer 45: what family.Script hands back. -/
namespace Go.Proofs.YtagajjilccjplaaGreat
open Go.RowKit

def roundL (b : Int) : List (Int × Int) := addL 1 1 7 ++ addL 1 2 (outN b)
def partL (b : Int) (k : Nat) : List (Int × Int) := addL 0 1 3 ++ (List.replicate k (roundL b)).flatten
def scriptL (b : Int) (m : Nat) : List (Int × Int) := partL b m ++ addL 0 0 4

theorem outN_le (b : Int) : outN b ≤ 6 := by unfold outN; split <;> omega
theorem addL_len (t w : Int) (s : Nat) : (addL t w s).length ≤ s + 1 := by unfold addL; split <;> simp <;> omega
theorem roundL_len (b : Int) : (roundL b).length = 9 + outN b := by simp [roundL, addL]; omega
theorem partL_len (b : Int) (k : Nat) : (partL b k).length = 4 + k * (9 + outN b) := by
  simp [partL, addL, roundL_len]; omega
theorem scriptL_len (b : Int) (m : Nat) : (scriptL b m).length = 4 + m * (9 + outN b) + 4 := by simp [scriptL, partL_len, addL]
theorem partL_succ (b : Int) (k : Nat) : partL b (k + 1) = (partL b k ++ addL 1 1 7) ++ addL 1 2 (outN b) := by
  simp [partL, List.replicate_succ', roundL, List.append_assoc]

theorem add_call (w0 : World) (B base : Nat) (l : List (Int × Int)) (t want s : Int) (steps : Nat) (hs : s = (steps : Int)) (hc : Cap w0 B base l) (hl : l.length + steps ≤ 5000) :
    Calls Tryz.prog 30 #[.int .i64 t, .int .i64 want, .int .i64 s, .pointer (some ⟨B, 0, none⟩)] w0 fun e w' => e = .returned (.tuple #[]) ∧ Cap w' B base (l ++ addL t want steps) ∧ Below B w0 w' := by
  subst hs; exact addF_any w0 B base l t want steps hc hl

theorem script_arg (b m : Int) (w : World) (h : b < 0 ∨ 1000 < b ∨ m < 0) : Calls Tryz.prog 6 #[.int .i64 b, .int .i64 m] w fun e w' => e = .returned (.tuple #[.slice none 0 0, .int .i64 1]) ∧ w = w' := by
  by_cases hb : b < 0 ∨ 1000 < b
  · clear h
    go_enter Tryz.func6, Tryz.ntmps6
    go_wp2_with (go_at_call 28; refine (right_no _ _ hb).mono ?_; rintro e w' ⟨rfl, rfl⟩)
    go_ret2
    exact ⟨rfl, rfl⟩
  · have h0 : 0 ≤ b := by omega
    have h1 : b ≤ 1000 := by omega
    have hm : m < 0 := by omega
    clear h hb
    go_enter Tryz.func6, Tryz.ntmps6
    go_wp2_with (go_at_call 28; refine (right_yes _ _ h0 h1).mono ?_; rintro e w' ⟨rfl, rfl⟩)
    go_ret2
    exact ⟨rfl, rfl⟩

theorem script_many (b m : Int) (w : World) (h0 : 0 ≤ b) (h1 : b ≤ 1000) (hm : 0 ≤ m) (hz : sizeN b m = 0) : Calls Tryz.prog 6 #[.int .i64 b, .int .i64 m] w fun e w' => e = .returned (.tuple #[.slice none 0 0, .int .i64 8]) ∧ w = w' := by
  have SZ : ∀ w, Calls Tryz.prog 29 #[.int .i64 b, .int .i64 m] w fun e w' => e = .returned (.int .i64 0) ∧ w = w' := fun w => by rw [← hz]; exact size_any b m w
  have HS := Lib.hid SZ
  clear SZ hz
  go_enter Tryz.func6, Tryz.ntmps6
  go_wp2_with (first | (go_at_call 28; refine (right_yes _ _ h0 h1).mono ?_; rintro e w' ⟨rfl, rfl⟩) | (go_at_call 29; refine (HS.out _).mono ?_; rintro e w' ⟨rfl, rfl⟩))
  go_ret2
  exact ⟨rfl, rfl⟩

theorem size_pos (b : Int) (m : Nat) (hb : 0 ≤ b ∧ b ≤ 1000) (h : 4 + m * (9 + outN b) + 4 ≤ 4000) : sizeN b m = ((4 + m * (9 + outN b) + 4 : Nat) : Int) := by
  have h9 : m * 9 ≤ m * (9 + outN b) := Nat.mul_le_mul_left m (by omega)
  unfold sizeN
  rw [if_neg (by omega)]
  have e : (m : Int) * (9 + (outN b : Int)) = ((m * (9 + outN b) : Nat) : Int) := by simp
  rw [e, if_neg (by omega)]
  omega
theorem cap_nil (w : World) : Cap (w.alloc (.cells #[.slice none 0 0] 23)) w.heap.size (w.heap.size + 1) [] :=
  ⟨_, heap_alloc_new w _, World.ownsRow_nil _ _ _ _, by omega, by simp⟩

set_option maxHeartbeats 1000000 in
theorem script_ok (b : Int) (m : Nat) (w : World) (h0 : 0 ≤ b) (h1 : b ≤ 1000) (hsz : 4 + m * (9 + outN b) + 4 ≤ 4000) :
    Calls Tryz.prog 6 #[.int .i64 b, .int .i64 m] w fun e w' => ∃ v, e = .returned (.tuple #[v, .int .i64 0]) ∧ RdL w' v 2 encP (scriptL b m) ∧ Below w.heap.size w w' := by
  have h9 : m * 9 ≤ m * (9 + outN b) := Nat.mul_le_mul_left m (by omega)
  have hm0 : (0 : Int) ≤ m := by omega
  have hmm : (m : Int) ≤ 4000 := by omega
  have hmf : ∀ (fn : Fn) (first cap : Array Value) (w : World), (Instr.makeFunc fn first cap).run Tryz.prog w = .ok (.func fn first cap) w := fun _ _ _ _ => rfl
  obtain ⟨n, hn, hn2⟩ : ∃ n : Nat, n = 4 + m * (9 + outN b) + 4 ∧ 8 ≤ n := ⟨_, rfl, by omega⟩
  have SZ : ∀ w, Calls Tryz.prog 29 #[.int .i64 b, .int .i64 m] w fun e w' => e = .returned (.int .i64 (n : Int)) ∧ w = w' := fun w => by
    have := size_any b m w
    rw [size_pos b m ⟨h0, h1⟩ hsz, ← hn] at this
    exact this
  have HS := Lib.hid SZ
  have HP : Hid (∀ k, k ≤ m → (partL b k).length + 20 ≤ 5000) := fun k hk => by
    rw [partL_len]; have : k * (9 + outN b) ≤ m * (9 + outN b) := Nat.mul_le_mul_right _ hk
    omega
  have HN := Lib.hid hn
  have HZ := Lib.hid hsz
  have hO := outN_le b
  clear SZ hn hsz h9
  go_enter Tryz.func6, Tryz.ntmps6
  go_wp2_with (first | (go_at_call 28; refine (right_yes _ _ h0 h1).mono ?_; rintro e w' ⟨rfl, rfl⟩) | (go_at_call 29; refine (HS.out _).mono ?_; rintro e w' ⟨rfl, rfl⟩))
  refine (add_call _ w.heap.size (w.heap.size + 1) [] 0 1 3 3 rfl (cap_nil w) (by simp)).mono ?_
  rintro e w1 ⟨rfl, hc1, hb1⟩
  go_wp2_with fail
  go_loopw [25] (fun i wr => ∃ k : Nat, k ≤ m ∧ i = .int .i64 k ∧ Cap wr w.heap.size (w.heap.size + 1) (partL b k) ∧ Below w.heap.size w wr) (fun i _ => m - (intOf i).toNat)
  case atStart => exact ⟨0, by omega, rfl, by simpa [partL] using hc1, ((Below.refl _ _).alloc (Nat.le_refl _) _).trans hb1⟩
  case round =>
    obtain ⟨k, hk, rfl, hcap, hbel⟩ := hrel
    have hP := HP.out k hk
    clear hc1 hb1
    by_cases hlt : k < m
    · have HC := Lib.hid hcap
      clear hcap
      go_wp2_with fail
      refine (add_call _ w.heap.size (w.heap.size + 1) (partL b k) 1 1 7 7 rfl HC.out (by omega)).mono ?_
      rintro e w2 ⟨rfl, hc2, hb2⟩
      have HC2 := Lib.hid hc2
      clear hc2
      go_wp2_with (go_at_call 31; refine (out_any _ _).mono ?_; rintro e w' ⟨rfl, rfl⟩)
      refine (add_call _ w.heap.size (w.heap.size + 1) (partL b k ++ addL 1 1 7) 1 2 (outN b) (outN b) rfl HC2.out (by have := addL_len 1 1 7; simp only [List.length_append]; omega)).mono ?_
      rintro e w3 ⟨rfl, hc3, hb3⟩
      rw [← partL_succ] at hc3
      have HC3 := Lib.hid hc3
      clear hc3
      go_wp2
      go_roundw
      case rel => exact ⟨k + 1, by omega, by go_num, HC3.out, (hbel.trans hb2).trans hb3⟩
      case measure => simp [intOf]; omega
    · obtain rfl : k = m := by omega
      have HC := Lib.hid hcap
      clear hcap
      go_wp2_with fail
      refine (add_call _ w.heap.size (w.heap.size + 1) (partL b k) 0 0 4 4 rfl HC.out (by omega)).mono ?_
      rintro e w2 ⟨rfl, hc2, hb2⟩
      obtain ⟨q, hq⟩ : ∃ q, q = partL b k ++ addL 0 0 4 := ⟨_, rfl⟩
      rw [← hq] at hc2
      have hql : q.length ≤ 140737488355328 := by have := scriptL_len b k; have := HZ.out; unfold scriptL at *; rw [hq]; omega
      have HQ : Hid (q = scriptL b k) := hq
      have HL := Lib.hid hql
      clear hq hql
      obtain ⟨v, hB, hown, hlt2, hle⟩ := hc2
      have hcB := cell_of_one hB
      obtain ⟨A', c', rfl⟩ := own_form hown
      have HO := Lib.hid hown
      clear hown hB
      go_wp2
      go_ret2
      exact ⟨_, rfl, by rw [← HQ.out]; exact RdL.of_own encP_len rfl HL.out HO.out, hbel.trans hb2⟩
end Go.Proofs.YtagajjilccjplaaGreat
end
section
set_option linter.unusedVariables false
set_option linter.unusedSimpArgs false
/- FamilyDoorway, plain: what the acts of the family's scripts make of a cohort lock of two nodes. -/
namespace Go.Proofs.YtagajjilccjplaaGreat
open Go.RowKit

def P45 : List Int := [-1, 0, 0]
def T45 : List Int := [1, 2]
def c45 (b : Int) : CoC := coCN 2 4 1 b P45 T45 (newAr 4096)
def st45 : Co := coStN 2 4 1 P45 T45 (newAr 4096)
def actD (c : CoC) (st : Co) (pk : Int × Int) : Co := if pk.2 = 1 then coAsk c st pk.1.toNat else if pk.2 = 2 then coLeave st pk.1.toNat else coStep c st pk.1.toNat
def runD (c : CoC) (st : Co) (l : List (Int × Int)) (k : Nat) : Co := (l.take k).foldl (actD c) st
theorem runD_succ (c : CoC) (st : Co) {l : List (Int × Int)} {k : Nat} {pk : Int × Int} (h : l[k]? = some pk) : runD c st l (k + 1) = actD c (runD c st l k) pk := by
  unfold runD
  rw [List.take_add_one, h]
  simp
theorem chk45 : chkT P45 T45 = 0 := by decide
theorem addL_mem {t w : Int} {s : Nat} {pk : Int × Int} (h : pk ∈ addL t w s) : pk.1 = t ∧ (pk.2 = w ∨ pk.2 = 0) := by
  unfold addL at h
  rcases List.mem_append.1 h with h | h
  · split at h
    · cases h
    · rw [List.mem_singleton.1 h]; exact ⟨rfl, .inl rfl⟩
  · rw [(List.mem_replicate.1 h).2]; exact ⟨rfl, .inr rfl⟩
theorem part_rest {b : Int} {m k : Nat} {pk : Int × Int} (h : (partL b m)[k]? = some pk) : (pk.1 = 0 ∨ pk.1 = 1) ∧ (pk.2 = 0 ∨ pk.2 = 1 ∨ pk.2 = 2) ∧ (4 ≤ k → pk.1 = 1) := by
  unfold partL at h
  by_cases hk : k < (addL 0 1 3).length
  · rw [List.getElem?_append_left hk] at h
    have := addL_mem (List.mem_of_getElem? h)
    have h4 : k < 4 := hk
    refine ⟨.inl this.1, by rcases this.2 with e | e <;> rw [e] <;> decide, fun h => by omega⟩
  · rw [List.getElem?_append_right (by omega)] at h
    have hm := List.mem_of_getElem? h
    obtain ⟨l, hl, hp⟩ := List.mem_flatten.1 hm
    rw [(List.mem_replicate.1 hl).2] at hp
    unfold roundL at hp
    rcases List.mem_append.1 hp with hp | hp
    · have := addL_mem hp
      exact ⟨.inr this.1, by rcases this.2 with e | e <;> rw [e] <;> decide, fun _ => this.1⟩
    · have := addL_mem hp
      exact ⟨.inr this.1, by rcases this.2 with e | e <;> rw [e] <;> decide, fun _ => this.1⟩
theorem script_part {b : Int} {m k : Nat} (h : k < (partL b m).length) : (scriptL b m)[k]? = (partL b m)[k]? := by
  unfold scriptL
  rw [List.getElem?_append_left h]
theorem w45 (b : Int) : CoW0 (c45 b) 2 2 st45.s.W.length := new_w0 chk45 (by decide) (by decide) (by decide)
theorem ok45 (b : Int) : CoOk (c45 b) 2 st45.s.W.length 40 40 st45 := by
  have := new_ok (kg := 2) (kl := 4) (par := 1) (bud := b) (s := newAr 4096) chk45 (fun v hv => by cases hv)
  exact this
end Go.Proofs.YtagajjilccjplaaGreat
end
section
set_option linter.unusedVariables false
set_option linter.unusedSimpArgs false
/- FamilyPasses, plain: what each act of the script makes of spots and words. No program in sight. (printed by gen_fp1.py) -/
namespace Go.Proofs.YtagajjilccjplaaGreat
open Go Go.RowKit

structure S45 (st : Co) (T G : List Sp) (L : List (List Sp)) (W : List Int) : Prop where
  t : st.T = T
  g : st.G = G
  l : st.L = L
  w : st.s.W = W
theorem c45_eq (b : Int) : (c45 b).kg = 2 ∧ (c45 b).kl = 4 ∧ (c45 b).tg = 1 ∧ (c45 b).bud = b ∧ (c45 b).node 1 = 1 ∧ (c45 b).node 0 = 0 ∧ (c45 b).slot 0 = 0 ∧ (c45 b).slot 1 = 0 ∧ (c45 b).tl 0 = 3 ∧ (c45 b).tl 1 = 7 ∧ (c45 b).cw 0 = 6 ∧ (c45 b).cw 1 = 10 := by
  refine ⟨rfl, rfl, by kernel_rfl, rfl, by kernel_rfl, by kernel_rfl, by kernel_rfl, by kernel_rfl, by kernel_rfl, by kernel_rfl, by kernel_rfl, by kernel_rfl⟩
section
set_option linter.unusedSimpArgs false
variable {b k ta ga w : Int} {st : Co}
theorem fpR1 (h : S45 st [⟨2, 0, 0, 0⟩, ⟨0, ta, 0, 0⟩] [⟨0, 0, 0, 0⟩, ⟨0, ga, 0, 0⟩] [[⟨10, 0, 0, 0⟩], [⟨0, 0, 0, 0⟩]] [k, k, 1, 0, 1, 0, 0, 0, w, 0]) : S45 (actD (c45 b) st (1, 1)) [⟨2, 0, 0, 0⟩, ⟨1, ta, 0, 0⟩] [⟨0, 0, 0, 0⟩, ⟨0, ga, 0, 0⟩] [[⟨10, 0, 0, 0⟩], [⟨1, 0, 0, 0⟩]] [k, k, 1, 0, 1, 0, 0, 0, w, 0] := by
  obtain ⟨k1, k2, k3, k4, k5, k6, k7, k8, k9, k10, k11, k12⟩ := c45_eq b
  obtain ⟨h1, h2, h3, h4⟩ := h
  constructor <;> simp [actD, coAsk, coLeave, coStep, coSet, coMv, coIn, coOut, stL, stG, camL, camG, stepK, tickK, mcsK, mcsIn, mcsOut, cameK, setL, lset, lsp, askK, leaveK, aloneK, passB, casB, sv, storeA_W, loadA_W, addA_W, swapA_W, casA_W, ldW, stW, inR, mNx, mWt, *]
theorem fpR2 (h : S45 st [⟨2, 0, 0, 0⟩, ⟨1, ta, 0, 0⟩] [⟨0, 0, 0, 0⟩, ⟨0, ga, 0, 0⟩] [[⟨10, 0, 0, 0⟩], [⟨1, 0, 0, 0⟩]] [k, k, 1, 0, 1, 0, 0, 0, w, 0]) : S45 (actD (c45 b) st (1, 0)) [⟨2, 0, 0, 0⟩, ⟨1, ta, 0, 0⟩] [⟨0, 0, 0, 0⟩, ⟨0, ga, 0, 0⟩] [[⟨10, 0, 0, 0⟩], [⟨2, 0, 0, 0⟩]] [k, k, 1, 0, 1, 0, 0, 0, w, 0] := by
  obtain ⟨k1, k2, k3, k4, k5, k6, k7, k8, k9, k10, k11, k12⟩ := c45_eq b
  obtain ⟨h1, h2, h3, h4⟩ := h
  constructor <;> simp [actD, coAsk, coLeave, coStep, coSet, coMv, coIn, coOut, stL, stG, camL, camG, stepK, tickK, mcsK, mcsIn, mcsOut, cameK, setL, lset, lsp, askK, leaveK, aloneK, passB, casB, sv, storeA_W, loadA_W, addA_W, swapA_W, casA_W, ldW, stW, inR, mNx, mWt, *]
theorem fpR3 (h : S45 st [⟨2, 0, 0, 0⟩, ⟨1, ta, 0, 0⟩] [⟨0, 0, 0, 0⟩, ⟨0, ga, 0, 0⟩] [[⟨10, 0, 0, 0⟩], [⟨2, 0, 0, 0⟩]] [k, k, 1, 0, 1, 0, 0, 0, w, 0]) : S45 (actD (c45 b) st (1, 0)) [⟨2, 0, 0, 0⟩, ⟨1, ta, 0, 0⟩] [⟨0, 0, 0, 0⟩, ⟨0, ga, 0, 0⟩] [[⟨10, 0, 0, 0⟩], [⟨3, 0, 0, 0⟩]] [k, k, 1, 0, 1, 0, 0, 0, 1, 0] := by
  obtain ⟨k1, k2, k3, k4, k5, k6, k7, k8, k9, k10, k11, k12⟩ := c45_eq b
  obtain ⟨h1, h2, h3, h4⟩ := h
  constructor <;> simp [actD, coAsk, coLeave, coStep, coSet, coMv, coIn, coOut, stL, stG, camL, camG, stepK, tickK, mcsK, mcsIn, mcsOut, cameK, setL, lset, lsp, askK, leaveK, aloneK, passB, casB, sv, storeA_W, loadA_W, addA_W, swapA_W, casA_W, ldW, stW, inR, mNx, mWt, *]
theorem fpR4 (h : S45 st [⟨2, 0, 0, 0⟩, ⟨1, ta, 0, 0⟩] [⟨0, 0, 0, 0⟩, ⟨0, ga, 0, 0⟩] [[⟨10, 0, 0, 0⟩], [⟨3, 0, 0, 0⟩]] [k, k, 1, 0, 1, 0, 0, 0, 1, 0]) : S45 (actD (c45 b) st (1, 0)) [⟨2, 0, 0, 0⟩, ⟨2, ta, 0, 0⟩] [⟨0, 0, 0, 0⟩, ⟨0, ga, 0, 0⟩] [[⟨10, 0, 0, 0⟩], [⟨10, 0, 0, 0⟩]] [k, k, 1, 0, 1, 0, 1, 0, 1, 0] := by
  obtain ⟨k1, k2, k3, k4, k5, k6, k7, k8, k9, k10, k11, k12⟩ := c45_eq b
  obtain ⟨h1, h2, h3, h4⟩ := h
  constructor <;> simp [actD, coAsk, coLeave, coStep, coSet, coMv, coIn, coOut, stL, stG, camL, camG, stepK, tickK, mcsK, mcsIn, mcsOut, cameK, setL, lset, lsp, askK, leaveK, aloneK, passB, casB, sv, storeA_W, loadA_W, addA_W, swapA_W, casA_W, ldW, stW, inR, mNx, mWt, *]
theorem fpR5 (h : S45 st [⟨2, 0, 0, 0⟩, ⟨2, ta, 0, 0⟩] [⟨0, 0, 0, 0⟩, ⟨0, ga, 0, 0⟩] [[⟨10, 0, 0, 0⟩], [⟨10, 0, 0, 0⟩]] [k, k, 1, 0, 1, 0, 1, 0, 1, 0]) : S45 (actD (c45 b) st (1, 0)) [⟨2, 0, 0, 0⟩, ⟨3, 0, 0, 0⟩] [⟨0, 0, 0, 0⟩, ⟨1, ga, 0, 0⟩] [[⟨10, 0, 0, 0⟩], [⟨10, 0, 0, 0⟩]] [k, k, 1, 0, 1, 0, 1, 0, 1, 0] := by
  obtain ⟨k1, k2, k3, k4, k5, k6, k7, k8, k9, k10, k11, k12⟩ := c45_eq b
  obtain ⟨h1, h2, h3, h4⟩ := h
  constructor <;> simp [actD, coAsk, coLeave, coStep, coSet, coMv, coIn, coOut, stL, stG, camL, camG, stepK, tickK, mcsK, mcsIn, mcsOut, cameK, setL, lset, lsp, askK, leaveK, aloneK, passB, casB, sv, storeA_W, loadA_W, addA_W, swapA_W, casA_W, ldW, stW, inR, mNx, mWt, *]
theorem fpR6 (hk : IntKind.i64.wrap (k + 1) = k + 1) (h : S45 st [⟨2, 0, 0, 0⟩, ⟨3, 0, 0, 0⟩] [⟨0, 0, 0, 0⟩, ⟨1, ga, 0, 0⟩] [[⟨10, 0, 0, 0⟩], [⟨10, 0, 0, 0⟩]] [k, k, 1, 0, 1, 0, 1, 0, 1, 0]) : S45 (actD (c45 b) st (1, 0)) [⟨2, 0, 0, 0⟩, ⟨3, 0, 0, 0⟩] [⟨0, 0, 0, 0⟩, ⟨2, k, 0, 0⟩] [[⟨10, 0, 0, 0⟩], [⟨10, 0, 0, 0⟩]] [k + 1, k, 1, 0, 1, 0, 1, 0, 1, 0] := by
  obtain ⟨k1, k2, k3, k4, k5, k6, k7, k8, k9, k10, k11, k12⟩ := c45_eq b
  obtain ⟨h1, h2, h3, h4⟩ := h
  constructor <;> simp [actD, coAsk, coLeave, coStep, coSet, coMv, coIn, coOut, stL, stG, camL, camG, stepK, tickK, mcsK, mcsIn, mcsOut, cameK, setL, lset, lsp, askK, leaveK, aloneK, passB, casB, sv, storeA_W, loadA_W, addA_W, swapA_W, casA_W, ldW, stW, inR, mNx, mWt, *]
theorem fpR7 (h : S45 st [⟨2, 0, 0, 0⟩, ⟨3, 0, 0, 0⟩] [⟨0, 0, 0, 0⟩, ⟨2, k, 0, 0⟩] [[⟨10, 0, 0, 0⟩], [⟨10, 0, 0, 0⟩]] [k + 1, k, 1, 0, 1, 0, 1, 0, 1, 0]) : S45 (actD (c45 b) st (1, 0)) [⟨2, 0, 0, 0⟩, ⟨4, 0, 0, 0⟩] [⟨0, 0, 0, 0⟩, ⟨10, k, 0, 0⟩] [[⟨10, 0, 0, 0⟩], [⟨10, 0, 0, 0⟩]] [k + 1, k, 1, 0, 1, 0, 1, 0, 1, 0] := by
  obtain ⟨k1, k2, k3, k4, k5, k6, k7, k8, k9, k10, k11, k12⟩ := c45_eq b
  obtain ⟨h1, h2, h3, h4⟩ := h
  constructor <;> simp [actD, coAsk, coLeave, coStep, coSet, coMv, coIn, coOut, stL, stG, camL, camG, stepK, tickK, mcsK, mcsIn, mcsOut, cameK, setL, lset, lsp, askK, leaveK, aloneK, passB, casB, sv, storeA_W, loadA_W, addA_W, swapA_W, casA_W, ldW, stW, inR, mNx, mWt, *]
theorem fpR8 (h : S45 st [⟨2, 0, 0, 0⟩, ⟨4, 0, 0, 0⟩] [⟨0, 0, 0, 0⟩, ⟨10, k, 0, 0⟩] [[⟨10, 0, 0, 0⟩], [⟨10, 0, 0, 0⟩]] [k + 1, k, 1, 0, 1, 0, 1, 0, 1, 0]) : S45 (actD (c45 b) st (1, 0)) [⟨2, 0, 0, 0⟩, ⟨10, 1, 0, 0⟩] [⟨0, 0, 0, 0⟩, ⟨10, k, 0, 0⟩] [[⟨10, 0, 0, 0⟩], [⟨10, 0, 0, 0⟩]] [k + 1, k, 1, 0, 1, 0, 1, 0, 1, 1] := by
  obtain ⟨k1, k2, k3, k4, k5, k6, k7, k8, k9, k10, k11, k12⟩ := c45_eq b
  obtain ⟨h1, h2, h3, h4⟩ := h
  constructor <;> simp [actD, coAsk, coLeave, coStep, coSet, coMv, coIn, coOut, stL, stG, camL, camG, stepK, tickK, mcsK, mcsIn, mcsOut, cameK, setL, lset, lsp, askK, leaveK, aloneK, passB, casB, sv, storeA_W, loadA_W, addA_W, swapA_W, casA_W, ldW, stW, inR, mNx, mWt, *]
theorem fpR9 (h : S45 st [⟨2, 0, 0, 0⟩, ⟨10, 1, 0, 0⟩] [⟨0, 0, 0, 0⟩, ⟨10, k, 0, 0⟩] [[⟨10, 0, 0, 0⟩], [⟨10, 0, 0, 0⟩]] [k + 1, k, 1, 0, 1, 0, 1, 0, 1, 1]) : S45 (actD (c45 b) st (1, 2)) [⟨2, 0, 0, 0⟩, ⟨11, 1, 0, 0⟩] [⟨0, 0, 0, 0⟩, ⟨10, k, 0, 0⟩] [[⟨10, 0, 0, 0⟩], [⟨10, 0, 0, 0⟩]] [k + 1, k, 1, 0, 1, 0, 1, 0, 1, 1] := by
  obtain ⟨k1, k2, k3, k4, k5, k6, k7, k8, k9, k10, k11, k12⟩ := c45_eq b
  obtain ⟨h1, h2, h3, h4⟩ := h
  constructor <;> simp [actD, coAsk, coLeave, coStep, coSet, coMv, coIn, coOut, stL, stG, camL, camG, stepK, tickK, mcsK, mcsIn, mcsOut, cameK, setL, lset, lsp, askK, leaveK, aloneK, passB, casB, sv, storeA_W, loadA_W, addA_W, swapA_W, casA_W, ldW, stW, inR, mNx, mWt, *]
theorem fpO1 (hb : ¬ b < 1) (h : S45 st [⟨2, 0, 0, 0⟩, ⟨11, 1, 0, 0⟩] [⟨0, 0, 0, 0⟩, ⟨10, k, 0, 0⟩] [[⟨10, 0, 0, 0⟩], [⟨10, 0, 0, 0⟩]] [k + 1, k, 1, 0, 1, 0, 1, 0, 1, 1]) : S45 (actD (c45 b) st (1, 0)) [⟨2, 0, 0, 0⟩, ⟨12, 1, 0, 0⟩] [⟨0, 0, 0, 0⟩, ⟨10, k, 0, 0⟩] [[⟨10, 0, 0, 0⟩], [⟨10, 0, 0, 0⟩]] [k + 1, k, 1, 0, 1, 0, 1, 0, 1, 1] := by
  obtain ⟨k1, k2, k3, k4, k5, k6, k7, k8, k9, k10, k11, k12⟩ := c45_eq b
  obtain ⟨h1, h2, h3, h4⟩ := h
  constructor <;> simp [actD, coAsk, coLeave, coStep, coSet, coMv, coIn, coOut, stL, stG, camL, camG, stepK, tickK, mcsK, mcsIn, mcsOut, cameK, setL, lset, lsp, askK, leaveK, aloneK, passB, casB, sv, storeA_W, loadA_W, addA_W, swapA_W, casA_W, ldW, stW, inR, mNx, mWt, *]
theorem fpO2 (h : S45 st [⟨2, 0, 0, 0⟩, ⟨12, 1, 0, 0⟩] [⟨0, 0, 0, 0⟩, ⟨10, k, 0, 0⟩] [[⟨10, 0, 0, 0⟩], [⟨10, 0, 0, 0⟩]] [k + 1, k, 1, 0, 1, 0, 1, 0, 1, 1]) : S45 (actD (c45 b) st (1, 0)) [⟨2, 0, 0, 0⟩, ⟨14, 1, 0, 0⟩] [⟨0, 0, 0, 0⟩, ⟨10, k, 0, 0⟩] [[⟨10, 0, 0, 0⟩], [⟨10, 0, 0, 0⟩]] [k + 1, k, 1, 0, 1, 0, 1, 0, 1, 1] := by
  obtain ⟨k1, k2, k3, k4, k5, k6, k7, k8, k9, k10, k11, k12⟩ := c45_eq b
  obtain ⟨h1, h2, h3, h4⟩ := h
  constructor <;> simp [actD, coAsk, coLeave, coStep, coSet, coMv, coIn, coOut, stL, stG, camL, camG, stepK, tickK, mcsK, mcsIn, mcsOut, cameK, setL, lset, lsp, askK, leaveK, aloneK, passB, casB, sv, storeA_W, loadA_W, addA_W, swapA_W, casA_W, ldW, stW, inR, mNx, mWt, *]
theorem fpN1 (hb : b < 1) (h : S45 st [⟨2, 0, 0, 0⟩, ⟨11, 1, 0, 0⟩] [⟨0, 0, 0, 0⟩, ⟨10, k, 0, 0⟩] [[⟨10, 0, 0, 0⟩], [⟨10, 0, 0, 0⟩]] [k + 1, k, 1, 0, 1, 0, 1, 0, 1, 1]) : S45 (actD (c45 b) st (1, 0)) [⟨2, 0, 0, 0⟩, ⟨14, 1, 0, 0⟩] [⟨0, 0, 0, 0⟩, ⟨10, k, 0, 0⟩] [[⟨10, 0, 0, 0⟩], [⟨10, 0, 0, 0⟩]] [k + 1, k, 1, 0, 1, 0, 1, 0, 1, 1] := by
  obtain ⟨k1, k2, k3, k4, k5, k6, k7, k8, k9, k10, k11, k12⟩ := c45_eq b
  obtain ⟨h1, h2, h3, h4⟩ := h
  constructor <;> simp [actD, coAsk, coLeave, coStep, coSet, coMv, coIn, coOut, stL, stG, camL, camG, stepK, tickK, mcsK, mcsIn, mcsOut, cameK, setL, lset, lsp, askK, leaveK, aloneK, passB, casB, sv, storeA_W, loadA_W, addA_W, swapA_W, casA_W, ldW, stW, inR, mNx, mWt, *]
theorem fpQ1 (h : S45 st [⟨2, 0, 0, 0⟩, ⟨14, 1, 0, 0⟩] [⟨0, 0, 0, 0⟩, ⟨10, k, 0, 0⟩] [[⟨10, 0, 0, 0⟩], [⟨10, 0, 0, 0⟩]] [k + 1, k, 1, 0, 1, 0, 1, 0, 1, 1]) : S45 (actD (c45 b) st (1, 0)) [⟨2, 0, 0, 0⟩, ⟨15, 1, 0, 0⟩] [⟨0, 0, 0, 0⟩, ⟨11, k, 0, 0⟩] [[⟨10, 0, 0, 0⟩], [⟨10, 0, 0, 0⟩]] [k + 1, k, 1, 0, 1, 0, 1, 0, 1, 0] := by
  obtain ⟨k1, k2, k3, k4, k5, k6, k7, k8, k9, k10, k11, k12⟩ := c45_eq b
  obtain ⟨h1, h2, h3, h4⟩ := h
  constructor <;> simp [actD, coAsk, coLeave, coStep, coSet, coMv, coIn, coOut, stL, stG, camL, camG, stepK, tickK, mcsK, mcsIn, mcsOut, cameK, setL, lset, lsp, askK, leaveK, aloneK, passB, casB, sv, storeA_W, loadA_W, addA_W, swapA_W, casA_W, ldW, stW, inR, mNx, mWt, *]
theorem fpQ2 (h : S45 st [⟨2, 0, 0, 0⟩, ⟨15, 1, 0, 0⟩] [⟨0, 0, 0, 0⟩, ⟨11, k, 0, 0⟩] [[⟨10, 0, 0, 0⟩], [⟨10, 0, 0, 0⟩]] [k + 1, k, 1, 0, 1, 0, 1, 0, 1, 0]) : S45 (actD (c45 b) st (1, 0)) [⟨2, 0, 0, 0⟩, ⟨16, 1, 0, 0⟩] [⟨0, 0, 0, 0⟩, ⟨0, k, 0, 0⟩] [[⟨10, 0, 0, 0⟩], [⟨11, 0, 0, 0⟩]] [k + 1, k + 1, 1, 0, 1, 0, 1, 0, 1, 0] := by
  obtain ⟨k1, k2, k3, k4, k5, k6, k7, k8, k9, k10, k11, k12⟩ := c45_eq b
  obtain ⟨h1, h2, h3, h4⟩ := h
  constructor <;> simp [actD, coAsk, coLeave, coStep, coSet, coMv, coIn, coOut, stL, stG, camL, camG, stepK, tickK, mcsK, mcsIn, mcsOut, cameK, setL, lset, lsp, askK, leaveK, aloneK, passB, casB, sv, storeA_W, loadA_W, addA_W, swapA_W, casA_W, ldW, stW, inR, mNx, mWt, *]
theorem fpQ3 (h : S45 st [⟨2, 0, 0, 0⟩, ⟨16, 1, 0, 0⟩] [⟨0, 0, 0, 0⟩, ⟨0, k, 0, 0⟩] [[⟨10, 0, 0, 0⟩], [⟨11, 0, 0, 0⟩]] [k + 1, k + 1, 1, 0, 1, 0, 1, 0, 1, 0]) : S45 (actD (c45 b) st (1, 0)) [⟨2, 0, 0, 0⟩, ⟨16, 1, 0, 0⟩] [⟨0, 0, 0, 0⟩, ⟨0, k, 0, 0⟩] [[⟨10, 0, 0, 0⟩], [⟨12, 0, 0, 0⟩]] [k + 1, k + 1, 1, 0, 1, 0, 1, 0, 1, 0] := by
  obtain ⟨k1, k2, k3, k4, k5, k6, k7, k8, k9, k10, k11, k12⟩ := c45_eq b
  obtain ⟨h1, h2, h3, h4⟩ := h
  constructor <;> simp [actD, coAsk, coLeave, coStep, coSet, coMv, coIn, coOut, stL, stG, camL, camG, stepK, tickK, mcsK, mcsIn, mcsOut, cameK, setL, lset, lsp, askK, leaveK, aloneK, passB, casB, sv, storeA_W, loadA_W, addA_W, swapA_W, casA_W, ldW, stW, inR, mNx, mWt, *]
theorem fpQ4 (h : S45 st [⟨2, 0, 0, 0⟩, ⟨16, 1, 0, 0⟩] [⟨0, 0, 0, 0⟩, ⟨0, k, 0, 0⟩] [[⟨10, 0, 0, 0⟩], [⟨12, 0, 0, 0⟩]] [k + 1, k + 1, 1, 0, 1, 0, 1, 0, 1, 0]) : S45 (actD (c45 b) st (1, 0)) [⟨2, 0, 0, 0⟩, ⟨0, 1, 0, 0⟩] [⟨0, 0, 0, 0⟩, ⟨0, k, 0, 0⟩] [[⟨10, 0, 0, 0⟩], [⟨0, 0, 0, 0⟩]] [k + 1, k + 1, 1, 0, 1, 0, 0, 0, 1, 0] := by
  obtain ⟨k1, k2, k3, k4, k5, k6, k7, k8, k9, k10, k11, k12⟩ := c45_eq b
  obtain ⟨h1, h2, h3, h4⟩ := h
  constructor <;> simp [actD, coAsk, coLeave, coStep, coSet, coMv, coIn, coOut, stL, stG, camL, camG, stepK, tickK, mcsK, mcsIn, mcsOut, cameK, setL, lset, lsp, askK, leaveK, aloneK, passB, casB, sv, storeA_W, loadA_W, addA_W, swapA_W, casA_W, ldW, stW, inR, mNx, mWt, *]
theorem fpE1 (h : S45 st [⟨2, 0, 0, 0⟩, ⟨0, ta, 0, 0⟩] [⟨0, 0, 0, 0⟩, ⟨0, ga, 0, 0⟩] [[⟨10, 0, 0, 0⟩], [⟨0, 0, 0, 0⟩]] [k, k, 1, 0, 1, 0, 0, 0, w, 0]) : S45 (actD (c45 b) st (0, 0)) [⟨3, 0, 0, 0⟩, ⟨0, ta, 0, 0⟩] [⟨1, 0, 0, 0⟩, ⟨0, ga, 0, 0⟩] [[⟨10, 0, 0, 0⟩], [⟨0, 0, 0, 0⟩]] [k, k, 1, 0, 1, 0, 0, 0, w, 0] := by
  obtain ⟨k1, k2, k3, k4, k5, k6, k7, k8, k9, k10, k11, k12⟩ := c45_eq b
  obtain ⟨h1, h2, h3, h4⟩ := h
  constructor <;> simp [actD, coAsk, coLeave, coStep, coSet, coMv, coIn, coOut, stL, stG, camL, camG, stepK, tickK, mcsK, mcsIn, mcsOut, cameK, setL, lset, lsp, askK, leaveK, aloneK, passB, casB, sv, storeA_W, loadA_W, addA_W, swapA_W, casA_W, ldW, stW, inR, mNx, mWt, *]
theorem fpE2 (hk : IntKind.i64.wrap (k + 1) = k + 1) (h : S45 st [⟨3, 0, 0, 0⟩, ⟨0, ta, 0, 0⟩] [⟨1, 0, 0, 0⟩, ⟨0, ga, 0, 0⟩] [[⟨10, 0, 0, 0⟩], [⟨0, 0, 0, 0⟩]] [k, k, 1, 0, 1, 0, 0, 0, w, 0]) : S45 (actD (c45 b) st (0, 0)) [⟨3, 0, 0, 0⟩, ⟨0, ta, 0, 0⟩] [⟨2, k, 0, 0⟩, ⟨0, ga, 0, 0⟩] [[⟨10, 0, 0, 0⟩], [⟨0, 0, 0, 0⟩]] [k + 1, k, 1, 0, 1, 0, 0, 0, w, 0] := by
  obtain ⟨k1, k2, k3, k4, k5, k6, k7, k8, k9, k10, k11, k12⟩ := c45_eq b
  obtain ⟨h1, h2, h3, h4⟩ := h
  constructor <;> simp [actD, coAsk, coLeave, coStep, coSet, coMv, coIn, coOut, stL, stG, camL, camG, stepK, tickK, mcsK, mcsIn, mcsOut, cameK, setL, lset, lsp, askK, leaveK, aloneK, passB, casB, sv, storeA_W, loadA_W, addA_W, swapA_W, casA_W, ldW, stW, inR, mNx, mWt, *]
theorem fpE3 (h : S45 st [⟨3, 0, 0, 0⟩, ⟨0, ta, 0, 0⟩] [⟨2, k, 0, 0⟩, ⟨0, ga, 0, 0⟩] [[⟨10, 0, 0, 0⟩], [⟨0, 0, 0, 0⟩]] [k + 1, k, 1, 0, 1, 0, 0, 0, w, 0]) : S45 (actD (c45 b) st (0, 0)) [⟨4, 0, 0, 0⟩, ⟨0, ta, 0, 0⟩] [⟨10, k, 0, 0⟩, ⟨0, ga, 0, 0⟩] [[⟨10, 0, 0, 0⟩], [⟨0, 0, 0, 0⟩]] [k + 1, k, 1, 0, 1, 0, 0, 0, w, 0] := by
  obtain ⟨k1, k2, k3, k4, k5, k6, k7, k8, k9, k10, k11, k12⟩ := c45_eq b
  obtain ⟨h1, h2, h3, h4⟩ := h
  constructor <;> simp [actD, coAsk, coLeave, coStep, coSet, coMv, coIn, coOut, stL, stG, camL, camG, stepK, tickK, mcsK, mcsIn, mcsOut, cameK, setL, lset, lsp, askK, leaveK, aloneK, passB, casB, sv, storeA_W, loadA_W, addA_W, swapA_W, casA_W, ldW, stW, inR, mNx, mWt, *]
theorem fpE4 (h : S45 st [⟨4, 0, 0, 0⟩, ⟨0, ta, 0, 0⟩] [⟨10, k, 0, 0⟩, ⟨0, ga, 0, 0⟩] [[⟨10, 0, 0, 0⟩], [⟨0, 0, 0, 0⟩]] [k + 1, k, 1, 0, 1, 0, 0, 0, w, 0]) : S45 (actD (c45 b) st (0, 0)) [⟨10, 1, 0, 0⟩, ⟨0, ta, 0, 0⟩] [⟨10, k, 0, 0⟩, ⟨0, ga, 0, 0⟩] [[⟨10, 0, 0, 0⟩], [⟨0, 0, 0, 0⟩]] [k + 1, k, 1, 0, 1, 1, 0, 0, w, 0] := by
  obtain ⟨k1, k2, k3, k4, k5, k6, k7, k8, k9, k10, k11, k12⟩ := c45_eq b
  obtain ⟨h1, h2, h3, h4⟩ := h
  constructor <;> simp [actD, coAsk, coLeave, coStep, coSet, coMv, coIn, coOut, stL, stG, camL, camG, stepK, tickK, mcsK, mcsIn, mcsOut, cameK, setL, lset, lsp, askK, leaveK, aloneK, passB, casB, sv, storeA_W, loadA_W, addA_W, swapA_W, casA_W, ldW, stW, inR, mNx, mWt, *]
end
end Go.Proofs.YtagajjilccjplaaGreat
end
