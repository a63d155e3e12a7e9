/- Joined: Co3, Co4, Co5, Co6. -/
import Derived.Test.YtagajjilccjplaaGreatMgFamilyPasses9
section
set_option linter.unusedVariables false
set_option linter.unusedSimpArgs false
/- Layer 24 (cohort): what the locks' methods do to a lock of nodes, in its own words. -/
namespace Go.Proofs.YtagajjilccjplaaGreat
open Go.RowKit

/-- the blocks that turn -/
def CoS (a g : Nat) (x : Cox) : List Nat := a :: g :: x.qs :: x.g.q :: x.X.map Fx.q
/-- what a step asks of what is -/
structure CoPre (BB : Int) (x : Cox) (c : CoC) (st : Co) : Prop where
  ops : st.s.ops + 1 ≤ 1000000000000
  bd : CoB c BB st
  B0 : 1 ≤ BB
  B1 : BB ≤ 10000000000
  ig : inR st.s.W x.g.t = true
  il : ∀ (n : Nat) (y : Fx), x.X[n]? = some y → inR st.s.W y.t = true
  v : CoV c x.n st
section
variable {B : Nat → Prop} {w w' : World} {a g : Nat} {x : Cox} {c : CoC} {P T : List Int} {st st' : Co} {s' : Ar} {BB : Int}
theorem CoIs.lts (h : CoIs B w a g x c P T st) : ∀ r ∈ CoS a g x, r < w.heap.size := by
  intro r hr
  unfold CoS at hr
  simp only [List.mem_cons] at hr
  rcases hr with rfl | rfl | rfl | rfl | hr
  · exact h.ar.blk.lt
  · exact h.ar.wds.lt
  · exact h.sp.lt
  · exact h.gl.ki.sp.lt
  · obtain ⟨y, hy, rfl⟩ := List.mem_map.1 hr
    obtain ⟨n, hn, e⟩ := List.getElem_of_mem hy
    have hl : n < st.L.length := by rw [h.lL, ← h.fx.lX]; exact hn
    exact (h.lo n y _ (by rw [List.getElem?_eq_getElem hn, e]) (List.getElem?_eq_getElem hl)).ki.sp.lt
theorem tS_agy {y : Fx} {n : Nat} (hy : x.X[n]? = some y) (t : Turns [a, g, y.q] w w') : Turns (CoS a g x) w w' := by
  refine t.mono ?_
  intro i hi
  have hm : y.q ∈ x.X.map Fx.q := List.mem_map.2 ⟨y, List.mem_of_getElem? hy, rfl⟩
  unfold CoS
  simp only [List.mem_cons, List.not_mem_nil, or_false] at hi ⊢
  rcases hi with rfl | rfl | rfl
  · exact .inl rfl
  · exact .inr (.inl rfl)
  · exact .inr (.inr (.inr (.inr hm)))
theorem tS_agG (t : Turns [a, g, x.g.q] w w') : Turns (CoS a g x) w w' := by
  refine t.mono ?_
  intro i hi
  unfold CoS
  simp only [List.mem_cons, List.not_mem_nil, or_false] at hi ⊢
  rcases hi with rfl | rfl | rfl <;> simp
theorem tS_ag (t : Turns [a, g] w w') : Turns (CoS a g x) w w' := by
  refine t.mono ?_
  intro i hi
  unfold CoS
  simp only [List.mem_cons, List.not_mem_nil, or_false] at hi ⊢
  rcases hi with rfl | rfl <;> simp
theorem tS_qs (i : Nat) (u : Value) : Turns (CoS a g x) w (w.setCell ⟨x.qs, i, none⟩ u) := (Turns.refl _ _).setCell (.inl (by unfold CoS; simp)) _
theorem preL (h : CoIs B w a g x c P T st) (C : CoPre BB x c st) {n : Nat} {y : Fx} {S : List Sp} (hy : x.X[n]? = some y) (hS : st.L[n]? = some S) : PreK c.kl y st.s S BB :=
  ⟨C.ops, C.bd.w, C.bd.l S (List.mem_of_getElem? hS), C.B0, C.B1, C.il n y hy⟩
theorem preG (C : CoPre BB x c st) : PreK c.kg x.g st.s st.G BB := ⟨C.ops, C.bd.w, C.bd.g, C.B0, C.B1, C.ig⟩
theorem getD_some' {α : Type} {l : List α} {n : Nat} {z d : α} (h : l[n]? = some z) : l.getD n d = z := by rw [List.getD_eq_getElem?_getD, h]; rfl
theorem co_stepL (h : CoIs B w a g x c P T st) (C : CoPre BB x c st) (i : Nat) (hi : i < x.n) {y : Fx} (hy : x.X[c.node i]? = some y) :
    Calls Tryz.prog 203 #[.pointer (some ⟨y.p, 0, none⟩), .int .i64 (c.slot i)] w fun e w' => e = .returned (.bool (camL c st i)) ∧ CoIs B w' a g x c P T { st with s := (stL c st i).1, L := setL c st i (stL c st i).2 } ∧ Turns (CoS a g x) w w' := by
  obtain ⟨y', v, S, hy', hv, hS, hs, hsp⟩ := h.loc hi
  rw [hy] at hy'
  injection hy' with e
  subst e
  have e1 := (h.fx.tl _ _ hy).1
  have e2 := (h.fx.tl _ _ hy).2
  have eS : st.L.getD (c.node i) [] = S := getD_some' hS
  refine (fl_step (h.lo _ _ _ hy hS) h.fx.kl (c.slot i) _ hsp (preL h C hy hS) (C.v.lpc hi)).mono ?_
  rintro e w' ⟨rfl, hf, t⟩
  rw [← e1, e2] at hf
  rw [← e1, e2]
  refine ⟨rfl, ?_, tS_agy hy t⟩
  refine h.locOp hi hy t ?_
  rw [eS]
  exact hf
theorem co_stepG (h : CoIs B w a g x c P T st) (C : CoPre BB x c st) (i : Nat) (hi : i < x.n) :
    Calls Tryz.prog 203 #[.pointer (some ⟨x.g.p, 0, none⟩), .int .i64 (c.node i)] w fun e w' => e = .returned (.bool (camG c st i)) ∧ CoIs B w' a g x c P T { st with s := (stG c st i).1, G := st.G.set (c.node i) (stG c st i).2 } ∧ Turns (CoS a g x) w w' := by
  have e1 := h.fx.tg
  have e2 := h.fx.gm
  refine (fl_step h.gl h.fx.kg (c.node i) _ (h.glo hi) (preG C) (C.v.gpc hi)).mono ?_
  rintro e w' ⟨rfl, hf, t⟩
  rw [← e1, e2] at hf
  rw [← e1, e2]
  exact ⟨rfl, h.gloOp t hf, tS_agG t⟩
theorem co_leaveL (h : CoIs B w a g x c P T st) (i : Nat) (hi : i < x.n) {y : Fx} (hy : x.X[c.node i]? = some y) :
    Calls Tryz.prog 206 #[.pointer (some ⟨y.p, 0, none⟩), .int .i64 (c.slot i)] w fun e w' => (∃ b, e = .returned (.bool b)) ∧ CoIs B w' a g x c P T { st with L := setL c st i (leaveK (lsp st.L (c.node i) (c.slot i))) } ∧ Turns (CoS a g x) w w' := by
  obtain ⟨y', v, S, hy', hv, hS, hs, hsp⟩ := h.loc hi
  rw [hy] at hy'
  injection hy' with e
  subst e
  have eS : st.L.getD (c.node i) [] = S := getD_some' hS
  refine (fl_leave (h.lo _ _ _ hy hS) h.fx.kl (c.slot i) _ hsp).mono ?_
  rintro e w' ⟨rfl, hf, t⟩
  have t' : Turns [a, g, y.q] w w' := turns_qag t
  refine ⟨⟨_, rfl⟩, ?_, tS_agy hy t'⟩
  refine h.locOp hi hy t' ?_
  rw [eS]
  exact hf
theorem co_leaveG (h : CoIs B w a g x c P T st) (i : Nat) (hi : i < x.n) :
    Calls Tryz.prog 206 #[.pointer (some ⟨x.g.p, 0, none⟩), .int .i64 (c.node i)] w fun e w' => (∃ b, e = .returned (.bool b)) ∧ CoIs B w' a g x c P T { st with G := st.G.set (c.node i) (leaveK (sv st.G (c.node i))) } ∧ Turns (CoS a g x) w w' := by
  refine (fl_leave h.gl h.fx.kg (c.node i) _ (h.glo hi)).mono ?_
  rintro e w' ⟨rfl, hf, t⟩
  exact ⟨⟨_, rfl⟩, h.gloOp (turns_qag t) hf, tS_agG (turns_qag t)⟩
theorem co_askL (h : CoIs B w a g x c P T st) (i : Nat) (hi : i < x.n) {y : Fx} (hy : x.X[c.node i]? = some y) :
    Calls Tryz.prog 199 #[.pointer (some ⟨y.p, 0, none⟩), .int .i64 (c.slot i)] w fun e w' => (∃ b, e = .returned (.bool b)) ∧ CoIs B w' a g x c P T { st with L := setL c st i (askK c.kl (lsp st.L (c.node i) (c.slot i))) } ∧ Turns (CoS a g x) w w' := by
  obtain ⟨y', v, S, hy', hv, hS, hs, hsp⟩ := h.loc hi
  rw [hy] at hy'
  injection hy' with e
  subst e
  have eS : st.L.getD (c.node i) [] = S := getD_some' hS
  refine (fl_ask (h.lo _ _ _ hy hS) h.fx.kl (c.slot i) _ hsp).mono ?_
  rintro e w' ⟨rfl, hf, t⟩
  have t' : Turns [a, g, y.q] w w' := turns_qag t
  refine ⟨⟨_, rfl⟩, ?_, tS_agy hy t'⟩
  refine h.locOp hi hy t' ?_
  rw [eS]
  exact hf
theorem co_askG (h : CoIs B w a g x c P T st) (i : Nat) (hi : i < x.n) :
    Calls Tryz.prog 199 #[.pointer (some ⟨x.g.p, 0, none⟩), .int .i64 (c.node i)] w fun e w' => (∃ b, e = .returned (.bool b)) ∧ CoIs B w' a g x c P T { st with G := st.G.set (c.node i) (askK c.kg (sv st.G (c.node i))) } ∧ Turns (CoS a g x) w w' := by
  refine (fl_ask h.gl h.fx.kg (c.node i) _ (h.glo hi)).mono ?_
  rintro e w' ⟨rfl, hf, t⟩
  exact ⟨⟨_, rfl⟩, h.gloOp (turns_qag t) hf, tS_agG (turns_qag t)⟩
def aloneC (c : CoC) (st : Co) (i : Nat) : Ar × Bool := aloneK c.kl (c.tl (c.node i)) st.s (c.slot i) (lsp st.L (c.node i) (c.slot i))
theorem co_alone (h : CoIs B w a g x c P T st) (C : CoPre BB x c st) (i : Nat) (hi : i < x.n) {y : Fx} (hy : x.X[c.node i]? = some y) (h10 : (lsp st.L (c.node i) (c.slot i)).pc = 10) :
    Calls Tryz.prog 205 #[.pointer (some ⟨y.p, 0, none⟩), .int .i64 (c.slot i)] w fun e w' => e = .returned (.bool (aloneC c st i).2) ∧ CoIs B w' a g x c P T { st with s := (aloneC c st i).1 } ∧ Turns (CoS a g x) w w' := by
  obtain ⟨y', v, S, hy', hv, hS, hs, hsp⟩ := h.loc hi
  rw [hy] at hy'
  injection hy' with e
  subst e
  have e1 := (h.fx.tl _ _ hy).1
  have eS : st.L.getD (c.node i) [] = S := getD_some' hS
  refine (fl_alone (h.lo _ _ _ hy hS) h.fx.kl (c.slot i) _ hsp (preL h C hy hS) h10).mono ?_
  rintro e w' ⟨rfl, hf, t⟩
  rw [← e1] at hf
  rw [← e1]
  refine ⟨rfl, ?_, tS_agy hy t⟩
  have hl := h.locOp (p' := lsp st.L (c.node i) (c.slot i)) hi hy t (s' := (aloneC c st i).1) (by rw [eS, setS_id hsp]; exact hf)
  have eL : lset st.L (c.node i) (c.slot i) (lsp st.L (c.node i) (c.slot i)) = st.L := by
    unfold lset
    rw [eS, setS_id hsp]
    obtain ⟨hl, he⟩ := List.getElem?_eq_some_iff.1 hS; rw [← he]; exact List.set_getElem_self hl
  rw [eL] at hl
  exact hl
theorem co_load (h : CoIs B w a g x c P T st) (ho : st.s.ops + 1 ≤ 1000000000000) (n : Nat) {v : Nat} (hv : x.W[n]? = some v) :
    Calls Tryz.prog 140 #[.pointer (some ⟨a, 0, none⟩), .int .i64 v] w fun e w' => e = .returned (.int .i64 (ldW st.s.W (c.cw n))) ∧ CoIs B w' a g x c P T { st with s := loadA st.s (c.cw n) } ∧ Turns (CoS a g x) w w' := by
  have e1 := (h.fx.cc n v hv).1
  rw [e1]
  refine (load_any h.ar v ho).mono ?_
  rintro e w' ⟨rfl, hf, t⟩
  exact ⟨rfl, h.cnt t hf, tS_ag t⟩
theorem co_store (h : CoIs B w a g x c P T st) (ho : st.s.ops + 1 ≤ 1000000000000) (n : Nat) {v : Nat} (hv : x.W[n]? = some v) (u : Int) :
    Calls Tryz.prog 144 #[.pointer (some ⟨a, 0, none⟩), .int .i64 v, .int .i64 u] w fun e w' => e = .returned (.tuple #[]) ∧ CoIs B w' a g x c P T { st with s := storeA st.s (c.cw n) u } ∧ Turns (CoS a g x) w w' := by
  have e1 := (h.fx.cc n v hv).1
  rw [e1]
  refine (store_any h.ar v u ho).mono ?_
  rintro e w' ⟨rfl, hf, t⟩
  exact ⟨rfl, h.cnt t hf, tS_ag t⟩
/-- a lock, and a copy of a node behind it; what turned since a world w0 -/
structure CoN (B : Nat → Prop) (w0 w : World) (a g : Nat) (x : Cox) (c : CoC) (P T : List Int) (st : Co) (k : Nat) (y : Fx) (v : Nat) : Prop where
  is : CoIs B w a g x c P T st
  nb : Blk w k 219 #[.pointer (some ⟨y.p, 0, none⟩), .int .i64 v]
  nS : k ∉ CoS a g x
  tn : Turns (CoS a g x) w0 w
variable {w0 : World}
theorem CoN.to {k : Nat} {y : Fx} {v : Nat} (h : CoN B w0 w a g x c P T st k y v) (h2 : CoIs B w' a g x c P T st') (t : Turns (CoS a g x) w w') : CoN B w0 w' a g x c P T st' k y v :=
  ⟨h2, t.blk h.nb h.nS, h.nS, h.tn.trans t⟩
theorem CoN.put {k : Nat} {y : Fx} {v : Nat} (h : CoN B w0 w a g x c P T st k y v) {i : Nat} {p p' : Sp} (hp : st.T[i]? = some p) {j : Nat} {u : Value} (hj : j < 4) (he : (encP4 p).set j u = encP4 p') :
    CoN B w0 (w.setCell ⟨x.qs, i * 4 + j, none⟩ u) a g x c P T { st with T := st.T.set i p' } k y v := h.to (h.is.put hp hj he) (tS_qs _ _)
theorem CoN.drew {k : Nat} {y : Fx} {v : Nat} (h : CoN B w0 w a g x c P T st k y v) : CoN B w0 w.drew a g x c P T st k y v := h.to (h.is.below (Below.refl _ _).drew) (Turns.refl _ _).drew
/-- what is read -/
theorem CoN.ar (h : CoIs B w a g x c P T st) : w.cell? ⟨x.l, 0, none⟩ = some (.pointer (some ⟨a, 0, none⟩)) := h.lk.cell 0
theorem CoN.bud (h : CoIs B w a g x c P T st) : w.cell? ⟨x.l, 5, none⟩ = some (.int .i64 c.bud) := h.lk.cell 5
theorem CoN.glo (h : CoIs B w a g x c P T st) : w.cell? ⟨x.l, 6, none⟩ = some (.pointer (some ⟨x.g.p, 0, none⟩)) := h.lk.cell 6
theorem CoN.spots (h : CoIs B w a g x c P T st) : w.cell? ⟨x.l, 8, none⟩ = some (.slice (some ⟨x.qs, 0, none⟩) x.n x.n) := h.lk.cell 8
theorem CoN.n0 {k : Nat} {y : Fx} {v : Nat} (h : CoN B w0 w a g x c P T st k y v) : w.cell? ⟨k, 0, none⟩ = some (.pointer (some ⟨y.p, 0, none⟩)) := h.nb.cell 0
theorem CoN.n1 {k : Nat} {y : Fx} {v : Nat} (h : CoN B w0 w a g x c P T st k y v) : w.cell? ⟨k, 1, none⟩ = some (.int .i64 v) := h.nb.cell 1
theorem CoN.mk' (h : CoIs B w a g x c P T st) {w1 : World} (b1 : Below w.heap.size w w1) (y : Fx) (v : Nat) :
    CoN B w (w1.alloc (.cells #[.pointer (some ⟨y.p, 0, none⟩), .int .i64 v] 219)) a g x c P T st w1.heap.size y v := by
  have hs := b1.size
  refine ⟨h.below (b1.alloc hs _), Blk.new w1 _ _, fun k => ?_, Turns.of_below (b1.alloc hs _)⟩
  have := h.lts _ k
  omega
end
end Go.Proofs.YtagajjilccjplaaGreat
end
section
set_option linter.unusedVariables false
set_option linter.unusedSimpArgs false
/- Layer 24 (cohort): in, a step at a time (printed by gen_co4.py). -/
namespace Go.Proofs.YtagajjilccjplaaGreat
open Go.RowKit

/-- behind in and out: all but the thread's own place -/
def coPc (c : CoC) (st : Co) (i : Nat) (p : Sp) : Co := coSet st i ((coMv c st i p).1, (coMv c st i p).2.1, (coMv c st i p).2.2.1, { (coMv c st i p).2.2.2 with pc := p.pc })
def CoMid (B : Nat → Prop) (w : World) (a g : Nat) (x : Cox) (c : CoC) (P T : List Int) (st : Co) (i : Nat) (p : Sp) (e : Ending) (w' : World) : Prop :=
  e = .returned (.int .i64 (coMv c st i p).2.2.2.pc) ∧ CoIs B w' a g x c P T (coPc c st i p) ∧ Turns (CoS a g x) w w'
section
variable {B : Nat → Prop} {w w' w0 : World} {a g : Nat} {x : Cox} {c : CoC} {P T : List Int} {st st' : Co} {s' : Ar} {BB : Int}
theorem coMid (i : Nat) (p : Sp) {n : Int} {s' : Ar} {G' : List Sp} {L' : List (List Sp)} {q : Sp} (e1 : (coMv c st i p) = (s', G', L', q)) {e : Ending} (e2 : e = .returned (.int .i64 n)) (e3 : q.pc = n)
    (h : CoIs B w' a g x c P T ⟨s', G', L', st.T.set i { q with pc := p.pc }⟩) (t : Turns (CoS a g x) w w') : CoMid B w a g x c P T st i p e w' := by
  unfold CoMid coPc coSet
  rw [e1]
  exact ⟨by rw [e2, e3], h, t⟩
theorem CoN.drewN {k : Nat} {y : Fx} {v : Nat} (h : CoN B w0 w a g x c P T st k y v) (n : Nat) : CoN B w0 (w.drewN n) a g x c P T st k y v := h.to (h.is.turns0 ((Turns.refl [] w).drewN n)) ((Turns.refl _ _).drewN n)
theorem coMidS (i : Nat) (p : Sp) (hp : st.T[i]? = some p) {n : Int} {s' : Ar} {G' : List Sp} {L' : List (List Sp)} {q : Sp} (e1 : (coMv c st i p) = (s', G', L', q)) {e : Ending} (e2 : e = .returned (.int .i64 n)) (e3 : q.pc = n) (e4 : { q with pc := p.pc } = p)
    (h : CoIs B w' a g x c P T ⟨s', G', L', st.T⟩) (t : Turns (CoS a g x) w w') : CoMid B w a g x c P T st i p e w' := coMid i p e1 e2 e3 (by rw [e4, setS_id hp]; exact h) t
theorem right_yes0 (b : Int) (w : World) (h0 : 0 ≤ b) (h1 : b ≤ 1000) : Calls Tryz.prog 28 #[.int .i64 b] w fun e w' => e = .returned (.bool true) ∧ w = w' := by
  go_enter Tryz.func28, Tryz.ntmps28
  go_wp2
  go_ret
  exact ⟨rfl, rfl⟩
theorem in_any (n f t : Int) (w : World) : Calls Tryz.prog 55 #[.int .i64 n, .int .i64 f, .int .i64 t] w fun e w' => e = .returned (.bool (decide (f ≤ n) && decide (n ≤ t))) ∧ w = w' := by
  cases h1 : decide (f ≤ n) <;> cases h2 : decide (n ≤ t)
  all_goals
    have k1 : decide (n ≥ f) = decide (f ≤ n) := rfl
    rw [h1] at k1
    go_enter Tryz.func55, Tryz.ntmps55
    go_wp2
    go_ret
    exact ⟨rfl, rfl⟩
theorem passes_any (u bud : Int) (al : Bool) (hb : 0 ≤ bud ∧ bud ≤ 1000) (w : World) : Calls Tryz.prog 204 #[.int .i64 u, .int .i64 bud, .bool al] w fun e w' => e = .returned (.bool (passB u bud al)) ∧ w = w' := by
  obtain ⟨h0, h1⟩ := hb
  have HI := Lib.hid (fun w => in_any u 1 bud w)
  have e : passB u bud al = ((decide (1 ≤ u) && decide (u ≤ bud)) && !al) := by unfold passB; rw [Bool.decide_and]
  rw [e]
  clear e
  obtain ⟨q, hq⟩ : ∃ q, q = (decide (1 ≤ u) && decide (u ≤ bud)) := ⟨_, rfl⟩
  rw [← hq] at HI ⊢
  clear hq
  cases q <;> cases al
  all_goals
    go_enter Tryz.func204, Tryz.ntmps204
    go_wp2_with (first | (go_at_call 28; refine (right_yes0 bud _ h0 h1).mono ?_; rintro e w' ⟨rfl, rfl⟩) | (go_at_call 55; refine (HI.out _).mono ?_; rintro e w' ⟨rfl, rfl⟩))
    go_ret
    exact ⟨rfl, rfl⟩
set_option maxRecDepth 100000 in
set_option maxHeartbeats 2000000 in
theorem co_in1 (h : CoIs B w a g x c P T st) (C : CoPre BB x c st) (i : Nat) (hi : i < x.n) (u b z : Int) (hp : sv st.T i = ⟨1, u, b, z⟩) :
    Calls Tryz.prog 200 #[.pointer (some ⟨x.l, 0, none⟩), .int .i64 i] w (CoMid B w a g x c P T st i ⟨1, u, b, z⟩) := by
  obtain ⟨y, v, S, hy, hv, hS, hs, hsp⟩ := h.loc hi
  have hp' : st.T[i]? = some (⟨1, u, b, z⟩ : Sp) := by rw [h.thr hi, hp]
  have hn := h.fx.n32
  have c8 := CoN.spots h
  have t2 : ¬ (i : Int) < 0 := by omega
  have hl1 := h.lk.lt
  have hs2 := h.sp.lt
  have HOF := Lib.hid (ofCo h i hi hy hv)
  have HNB := Lib.hid (fun w1 (b1 : Below w.heap.size w w1) => CoN.mk' h b1 y v)
  obtain ⟨r, hr⟩ : ∃ r, r = stL c st i := ⟨_, rfl⟩
  obtain ⟨q, hq⟩ : ∃ q, q = camL c st i := ⟨_, rfl⟩
  have HF0 := (fun W (k : CoIs B W a g x c P T st) => co_stepL k C i hi hy)
  rw [← hr, ← hq] at HF0
  have HF := Lib.hid HF0
  have HX : Hid (coMv c st i ⟨1, u, b, z⟩ = (r.1, st.G, setL c st i r.2, if q then ⟨2, u, b, z⟩ else ⟨1, u, b, z⟩)) := Lib.hid (by rw [hr, hq]; rfl)
  have HP := Lib.hid hp'
  clear HF0 hr hq
  clear h C hp hp' hy hv hS hs hsp
  cases q
  all_goals
    go_enter Tryz.func200, Tryz.ntmps200
    go_wp2_with fail
    refine HOF.out.mono ?_
    rintro en w1 ⟨rfl, b1⟩
    have N1 := Lib.hid (HNB.out w1 b1)
    have hb1 := b1.size
    have e0 := N1.out.is.sp.cell HP.out 0 _ rfl
    simp only [Nat.add_zero] at e0
    have k0 := N1.out.n0
    have k6 := CoN.glo N1.out.is
    clear b1
    go_wp2_with fail
    refine (HF.out _ N1.out.is).mono ?_
    rintro en w2 ⟨rfl, k2, t2⟩
    have N2 := Lib.hid (N1.out.to k2 t2)
    have e2 := N2.out.is.sp.cell HP.out 0 _ rfl
    simp only [Nat.add_zero] at e2
    clear k2 t2 e0
    go_wp2
    go_ret
    exact coMidS i _ HP.out HX.out rfl rfl rfl N2.out.is N2.out.tn

set_option maxRecDepth 100000 in
set_option maxHeartbeats 2000000 in
theorem co_in2 (h : CoIs B w a g x c P T st) (C : CoPre BB x c st) (i : Nat) (hi : i < x.n) (u b z : Int) (hp : sv st.T i = ⟨2, u, b, z⟩) :
    Calls Tryz.prog 200 #[.pointer (some ⟨x.l, 0, none⟩), .int .i64 i] w (CoMid B w a g x c P T st i ⟨2, u, b, z⟩) := by
  obtain ⟨y, v, S, hy, hv, hS, hs, hsp⟩ := h.loc hi
  have hp' : st.T[i]? = some (⟨2, u, b, z⟩ : Sp) := by rw [h.thr hi, hp]
  have hn := h.fx.n32
  have c8 := CoN.spots h
  have t2 : ¬ (i : Int) < 0 := by omega
  have hl1 := h.lk.lt
  have hs2 := h.sp.lt
  have HOF := Lib.hid (ofCo h i hi hy hv)
  have HNB := Lib.hid (fun w1 (b1 : Below w.heap.size w w1) => CoN.mk' h b1 y v)
  obtain ⟨ar', har⟩ : ∃ s, s = loadA st.s (c.cw (c.node i)) := ⟨_, rfl⟩
  obtain ⟨q, hq⟩ : ∃ q, q = ldW st.s.W (c.cw (c.node i)) := ⟨_, rfl⟩
  have HO0 := (fun W (k : CoIs B W a g x c P T st) => co_load k C.ops (c.node i) hv)
  rw [← har, ← hq] at HO0
  have HO := Lib.hid HO0
  have HA := Lib.hid (fun W (s : Ar) (T' : List Sp) (k : CoIs B W a g x c P T ⟨s, st.G, st.L, T'⟩) => co_askG k i hi)
  have HX : Hid (coMv c st i ⟨2, u, b, z⟩ = if 0 < q then (ar', st.G, st.L, ⟨10, q, b, z⟩) else (ar', st.G.set (c.node i) (askK c.kg (sv st.G (c.node i))), st.L, ⟨3, q, b, z⟩)) := Lib.hid (by rw [har, hq]; rfl)
  have HC := Lib.hid (fun W st (k y v) (N : CoN B w W a g x c P T st k y v) => And.intro (CoN.ar N.is) N.n1)
  have HP := Lib.hid hp'
  have HL := Lib.hid (show i < st.T.length by rw [h.lS]; exact hi)
  clear HO0 har hq
  clear h C hp hp' hy hv hS hs hsp
  cases hc : decide (0 < q)
  all_goals
    have hc' : decide (q > 0) = decide (0 < q) := rfl
    rw [hc] at hc'
    go_enter Tryz.func200, Tryz.ntmps200
    go_wp2_with fail
    refine HOF.out.mono ?_
    rintro en w1 ⟨rfl, b1⟩
    have N1 := Lib.hid (HNB.out w1 b1)
    have hb1 := b1.size
    have e0 := N1.out.is.sp.cell HP.out 0 _ rfl
    simp only [Nat.add_zero] at e0
    have k0 := N1.out.n0
    have k6 := CoN.glo N1.out.is
    clear b1
    have N1d := Lib.hid N1.out.drew
    have HW := Lib.hid (show ∃ W, W = (w1.alloc (.cells #[.pointer (some ⟨y.p, 0, none⟩), .int .i64 v] 219)) from ⟨_, rfl⟩)
    go_wp2_with fail
    go_region_held3 (fun W => W.cell? ⟨x.l, 0, none⟩ = some (.pointer (some ⟨a, 0, none⟩)) ∧ W.cell? ⟨w1.heap.size, 1, none⟩ = some (.int .i64 v))
      (first | with_reducible exact HC.out _ _ _ _ _ N1d.out | with_reducible exact HC.out _ _ _ _ _ N2.out | with_reducible exact HC.out _ _ _ _ _ N3.out)
      (first
        | (go_at_call 140; go_loud (refine (HO.out _ N1d.out.is).mono ?_); rintro en w3 ⟨rfl, k3, t3⟩; have N2 := Lib.hid (N1d.out.to k3 t3); have N3 := Lib.hid (N2.out.put (p' := (⟨2, q, b, z⟩ : Sp)) HP.out (j := 1) (u := .int .i64 q) (by decide) rfl); have e1 := N2.out.is.sp.cell HP.out 1 _ rfl; have z1 := N2.out.is.sp.free (i * 4 + 1); clear k3 t3))
  all_goals
    have e4 := N3.out.is.sp.cell (getS_set HP.out _) 1 _ rfl
    have k6' := CoN.glo N3.out.is
    first
      | (go_wp2
         go_ret
         exact coMid i _ (HX.out.trans (if_pos (by simpa using hc))) rfl rfl N3.out.is N3.out.tn)
      | (go_wp2_with fail
         refine (HA.out _ _ _ N3.out.is).mono ?_
         rintro en w4 ⟨⟨bb, rfl⟩, k4, t4⟩
         have N4 := Lib.hid (N3.out.to k4 t4)
         clear k4 t4
         go_wp2
         go_ret
         exact coMid i _ (HX.out.trans (if_neg (by simpa using hc))) rfl rfl N4.out.is N4.out.tn)

set_option maxRecDepth 100000 in
set_option maxHeartbeats 2000000 in
theorem co_in3 (h : CoIs B w a g x c P T st) (C : CoPre BB x c st) (i : Nat) (hi : i < x.n) (u b z : Int) (hp : sv st.T i = ⟨3, u, b, z⟩) :
    Calls Tryz.prog 200 #[.pointer (some ⟨x.l, 0, none⟩), .int .i64 i] w (CoMid B w a g x c P T st i ⟨3, u, b, z⟩) := by
  obtain ⟨y, v, S, hy, hv, hS, hs, hsp⟩ := h.loc hi
  have hp' : st.T[i]? = some (⟨3, u, b, z⟩ : Sp) := by rw [h.thr hi, hp]
  have hn := h.fx.n32
  have c8 := CoN.spots h
  have t2 : ¬ (i : Int) < 0 := by omega
  have hl1 := h.lk.lt
  have hs2 := h.sp.lt
  have HOF := Lib.hid (ofCo h i hi hy hv)
  have HNB := Lib.hid (fun w1 (b1 : Below w.heap.size w w1) => CoN.mk' h b1 y v)
  obtain ⟨r, hr⟩ : ∃ r, r = stG c st i := ⟨_, rfl⟩
  obtain ⟨q, hq⟩ : ∃ q, q = camG c st i := ⟨_, rfl⟩
  have HF0 := (fun W (k : CoIs B W a g x c P T st) => co_stepG k C i hi)
  rw [← hr, ← hq] at HF0
  have HF := Lib.hid HF0
  have HX : Hid (coMv c st i ⟨3, u, b, z⟩ = (r.1, st.G.set (c.node i) r.2, st.L, if q then ⟨4, u, b, z⟩ else ⟨3, u, b, z⟩)) := Lib.hid (by rw [hr, hq]; rfl)
  have HP := Lib.hid hp'
  clear HF0 hr hq
  clear h C hp hp' hy hv hS hs hsp
  cases q
  all_goals
    go_enter Tryz.func200, Tryz.ntmps200
    go_wp2_with fail
    refine HOF.out.mono ?_
    rintro en w1 ⟨rfl, b1⟩
    have N1 := Lib.hid (HNB.out w1 b1)
    have hb1 := b1.size
    have e0 := N1.out.is.sp.cell HP.out 0 _ rfl
    simp only [Nat.add_zero] at e0
    have k0 := N1.out.n0
    have k6 := CoN.glo N1.out.is
    clear b1
    go_wp2_with fail
    refine (HF.out _ N1.out.is).mono ?_
    rintro en w2 ⟨rfl, k2, t2⟩
    have N2 := Lib.hid (N1.out.to k2 t2)
    have e2 := N2.out.is.sp.cell HP.out 0 _ rfl
    simp only [Nat.add_zero] at e2
    clear k2 t2 e0
    go_wp2
    go_ret
    exact coMidS i _ HP.out HX.out rfl rfl rfl N2.out.is N2.out.tn

set_option maxRecDepth 100000 in
set_option maxHeartbeats 2000000 in
theorem co_in4 (h : CoIs B w a g x c P T st) (C : CoPre BB x c st) (i : Nat) (hi : i < x.n) (u b z : Int) (hp : sv st.T i = ⟨4, u, b, z⟩) :
    Calls Tryz.prog 200 #[.pointer (some ⟨x.l, 0, none⟩), .int .i64 i] w (CoMid B w a g x c P T st i ⟨4, u, b, z⟩) := by
  obtain ⟨y, v, S, hy, hv, hS, hs, hsp⟩ := h.loc hi
  have hp' : st.T[i]? = some (⟨4, u, b, z⟩ : Sp) := by rw [h.thr hi, hp]
  have hn := h.fx.n32
  have c8 := CoN.spots h
  have t2 : ¬ (i : Int) < 0 := by omega
  have hl1 := h.lk.lt
  have hs2 := h.sp.lt
  have HOF := Lib.hid (ofCo h i hi hy hv)
  have HNB := Lib.hid (fun w1 (b1 : Below w.heap.size w w1) => CoN.mk' h b1 y v)
  obtain ⟨ar', har⟩ : ∃ s, s = storeA st.s (c.cw (c.node i)) 1 := ⟨_, rfl⟩
  have HO0 := (fun W (k : CoIs B W a g x c P T st) => co_store k C.ops (c.node i) hv 1)
  rw [← har] at HO0
  have HO := Lib.hid HO0
  have HX : Hid (coMv c st i ⟨4, u, b, z⟩ = (ar', st.G, st.L, ⟨10, 1, b, z⟩)) := Lib.hid (by rw [har]; rfl)
  have HC := Lib.hid (fun W st (k y v) (N : CoN B w W a g x c P T st k y v) => And.intro (CoN.ar N.is) N.n1)
  have HP := Lib.hid hp'
  clear HO0 har
  clear h C hp hp' hy hv hS hs hsp
  go_enter Tryz.func200, Tryz.ntmps200
  go_wp2_with fail
  refine HOF.out.mono ?_
  rintro en w1 ⟨rfl, b1⟩
  have N1 := Lib.hid (HNB.out w1 b1)
  have hb1 := b1.size
  have e0 := N1.out.is.sp.cell HP.out 0 _ rfl
  simp only [Nat.add_zero] at e0
  have k0 := N1.out.n0
  have k6 := CoN.glo N1.out.is
  clear b1
  have N1d := Lib.hid N1.out.drew
  go_wp2_with fail
  go_region_held3 (fun W => W.cell? ⟨x.l, 0, none⟩ = some (.pointer (some ⟨a, 0, none⟩)) ∧ W.cell? ⟨w1.heap.size, 1, none⟩ = some (.int .i64 v))
    (first | with_reducible exact HC.out _ _ _ _ _ N1d.out | with_reducible exact HC.out _ _ _ _ _ N2.out)
    (first
      | (go_at_call 144; go_loud (refine (HO.out _ N1d.out.is).mono ?_); rintro en w3 ⟨rfl, k3, t3⟩; have N2 := Lib.hid (N1d.out.to k3 t3); clear k3 t3))
  all_goals
    have e1 := N2.out.is.sp.cell HP.out 1 _ rfl
    have z1 := N2.out.is.sp.free (i * 4 + 1)
    have N3 := Lib.hid (N2.out.put (p' := (⟨4, 1, b, z⟩ : Sp)) HP.out (j := 1) (u := .int .i64 1) (by decide) rfl)
    go_wp2
    go_ret
    exact coMid i _ HX.out rfl rfl N3.out.is N3.out.tn
end
end Go.Proofs.YtagajjilccjplaaGreat
end
section
set_option linter.unusedVariables false
set_option linter.unusedSimpArgs false
/- Layer 24 (cohort): out, a step at a time (printed by gen_co4.py). -/
namespace Go.Proofs.YtagajjilccjplaaGreat
open Go.RowKit

section
variable {B : Nat → Prop} {w w' w0 : World} {a g : Nat} {x : Cox} {c : CoC} {P T : List Int} {st st' : Co} {s' : Ar} {BB : Int}
set_option maxRecDepth 100000 in
set_option maxHeartbeats 2000000 in
theorem co_out11 (h : CoIs B w a g x c P T st) (C : CoPre BB x c st) (i : Nat) (hi : i < x.n) (u b z : Int) (hp : sv st.T i = ⟨11, u, b, z⟩) :
    Calls Tryz.prog 201 #[.pointer (some ⟨x.l, 0, none⟩), .int .i64 i] w (CoMid B w a g x c P T st i ⟨11, u, b, z⟩) := by
  obtain ⟨y, v, S, hy, hv, hS, hs, hsp⟩ := h.loc hi
  have hp' : st.T[i]? = some (⟨11, u, b, z⟩ : Sp) := by rw [h.thr hi, hp]
  have hn := h.fx.n32
  have c8 := CoN.spots h
  have t2 : ¬ (i : Int) < 0 := by omega
  have hl1 := h.lk.lt
  have hs2 := h.sp.lt
  have HOF := Lib.hid (ofCo h i hi hy hv)
  have HNB := Lib.hid (fun w1 (b1 : Below w.heap.size w w1) => CoN.mk' h b1 y v)
  obtain ⟨ar', har⟩ : ∃ s, s = loadA st.s (c.cw (c.node i)) := ⟨_, rfl⟩
  obtain ⟨q, hq⟩ : ∃ q, q = ldW st.s.W (c.cw (c.node i)) := ⟨_, rfl⟩
  have HO0 := (fun W (k : CoIs B W a g x c P T st) => co_load k C.ops (c.node i) hv)
  rw [← har, ← hq] at HO0
  have HO := Lib.hid HO0
  have HX : Hid (coMv c st i ⟨11, u, b, z⟩ = (ar', st.G, st.L, ⟨if c.bud < q then 14 else 12, q, b, z⟩)) := Lib.hid (by rw [har, hq]; rfl)
  have HC := Lib.hid (fun W st (k y v) (N : CoN B w W a g x c P T st k y v) => And.intro (CoN.ar N.is) N.n1)
  have HP := Lib.hid hp'
  clear HO0 har hq
  clear h C hp hp' hy hv hS hs hsp
  obtain ⟨bud, hbud⟩ : ∃ d, d = c.bud := ⟨_, rfl⟩
  rw [← hbud] at HX
  have HD := Lib.hid hbud
  clear hbud
  cases hc : decide (bud < q)
  all_goals
    have hc' : decide (q > bud) = decide (bud < q) := rfl
    rw [hc] at hc'
    go_enter Tryz.func201, Tryz.ntmps201
    go_wp2_with fail
    refine HOF.out.mono ?_
    rintro en w1 ⟨rfl, b1⟩
    have N1 := Lib.hid (HNB.out w1 b1)
    have hb1 := b1.size
    have e0 := N1.out.is.sp.cell HP.out 0 _ rfl
    simp only [Nat.add_zero] at e0
    have k0 := N1.out.n0
    have k6 := CoN.glo N1.out.is
    clear b1
    have N1d := Lib.hid N1.out.drew
    go_wp2_with fail
    go_region_held3 (fun W => W.cell? ⟨x.l, 0, none⟩ = some (.pointer (some ⟨a, 0, none⟩)) ∧ W.cell? ⟨w1.heap.size, 1, none⟩ = some (.int .i64 v))
      (first | with_reducible exact HC.out _ _ _ _ _ N1d.out | with_reducible exact HC.out _ _ _ _ _ N2.out | with_reducible exact HC.out _ _ _ _ _ N3.out)
      (first
        | (go_at_call 140; go_loud (refine (HO.out _ N1d.out.is).mono ?_); rintro en w3 ⟨rfl, k3, t3⟩; have N2 := Lib.hid (N1d.out.to k3 t3); have N3 := Lib.hid (N2.out.put (p' := (⟨11, q, b, z⟩ : Sp)) HP.out (j := 1) (u := .int .i64 q) (by decide) rfl); have e1 := N2.out.is.sp.cell HP.out 1 _ rfl; have z1 := N2.out.is.sp.free (i * 4 + 1); clear k3 t3))
  all_goals
    have e4 := N3.out.is.sp.cell (getS_set HP.out _) 1 _ rfl
    have e5 := CoN.bud N3.out.is
    rw [← HD.out] at e5
    clear e1 z1
    go_wp2_with fail
    go_quiet (fail)
    go_wp2
    go_ret
    first
      | (rw [if_pos (by simpa using hc)] at HX; exact coMid i _ HX.out rfl rfl (N3.out.drewN _).is (N3.out.drewN _).tn)
      | (rw [if_neg (by simpa using hc)] at HX; exact coMid i _ HX.out rfl rfl (N3.out.drewN _).is (N3.out.drewN _).tn)

set_option maxRecDepth 100000 in
set_option maxHeartbeats 2000000 in
theorem co_out12 (h : CoIs B w a g x c P T st) (C : CoPre BB x c st) (i : Nat) (hi : i < x.n) (u b z : Int) (h10 : (lsp st.L (c.node i) (c.slot i)).pc = 10) (hp : sv st.T i = ⟨12, u, b, z⟩) :
    Calls Tryz.prog 201 #[.pointer (some ⟨x.l, 0, none⟩), .int .i64 i] w (CoMid B w a g x c P T st i ⟨12, u, b, z⟩) := by
  obtain ⟨y, v, S, hy, hv, hS, hs, hsp⟩ := h.loc hi
  have hp' : st.T[i]? = some (⟨12, u, b, z⟩ : Sp) := by rw [h.thr hi, hp]
  have hn := h.fx.n32
  have c8 := CoN.spots h
  have t2 : ¬ (i : Int) < 0 := by omega
  have hl1 := h.lk.lt
  have hs2 := h.sp.lt
  have HOF := Lib.hid (ofCo h i hi hy hv)
  have HNB := Lib.hid (fun w1 (b1 : Below w.heap.size w w1) => CoN.mk' h b1 y v)
  obtain ⟨r, hr⟩ : ∃ r, r = aloneC c st i := ⟨_, rfl⟩
  have HO0 := (fun W (k : CoIs B W a g x c P T st) => co_alone k C i hi hy h10)
  rw [← hr] at HO0
  have HO := Lib.hid HO0
  obtain ⟨q, hq⟩ : ∃ q, q = passB u c.bud r.2 := ⟨_, rfl⟩
  have HQ := Lib.hid (fun W => passes_any u c.bud r.2 h.fx.bud W)
  rw [← hq] at HQ
  have HX : Hid (coMv c st i ⟨12, u, b, z⟩ = (r.1, st.G, st.L, ⟨if q then 13 else 14, u, b, z⟩)) := Lib.hid (by rw [hq, hr]; rfl)
  have HC := Lib.hid (fun W st (N : ∃ k, k = w.heap.size ∧ CoIs B W a g x c P T st) (hp : st.T[i]? = some (⟨12, u, b, z⟩ : Sp)) => And.intro (N.choose_spec.2.sp.cell hp 1 _ rfl) (CoN.bud N.choose_spec.2))
  have HP := Lib.hid hp'
  clear HO0 hr hq HC
  have HC := Lib.hid (fun W st (k y v) (N : CoN B w W a g x c P T st k y v) (hp : st.T[i]? = some (⟨12, u, b, z⟩ : Sp)) => And.intro (N.is.sp.cell hp 1 _ rfl) (And.intro (CoN.bud N.is) N.n0))
  clear h C hp hp' hy hv hS hs hsp
  obtain ⟨r1, r2⟩ := r
  simp only at HO HQ HX
  cases q
  all_goals
    go_enter Tryz.func201, Tryz.ntmps201
    go_wp2_with fail
    refine HOF.out.mono ?_
    rintro en w1 ⟨rfl, b1⟩
    have N1 := Lib.hid (HNB.out w1 b1)
    have hb1 := b1.size
    have e0 := N1.out.is.sp.cell HP.out 0 _ rfl
    simp only [Nat.add_zero] at e0
    have k0 := N1.out.n0
    have k6 := CoN.glo N1.out.is
    clear b1
    have N1d := Lib.hid N1.out.drew
    go_wp2_with fail
    go_region_held3 (fun W => W.cell? ⟨x.qs, i * 4 + 1, none⟩ = some (.int .i64 u) ∧ W.cell? ⟨x.l, 5, none⟩ = some (.int .i64 c.bud) ∧ W.cell? ⟨w1.heap.size, 0, none⟩ = some (.pointer (some ⟨y.p, 0, none⟩)))
      (first | with_reducible exact HC.out _ _ _ _ _ N1d.out HP.out | with_reducible exact HC.out _ _ _ _ _ N2.out HP.out)
      (first
        | (go_at_call 205; go_loud (refine (HO.out _ N1d.out.is).mono ?_); rintro en w3 ⟨rfl, k3, t3⟩; have N2 := Lib.hid (N1d.out.to k3 t3); clear k3 t3)
        | (go_at_call 204; go_loud (refine (HQ.out _).mono ?_); rintro en w4 ⟨rfl, rfl⟩))
  all_goals
    go_wp2
    go_ret
    exact coMidS i _ HP.out HX.out rfl rfl rfl N2.out.is N2.out.tn

set_option maxRecDepth 100000 in
set_option maxHeartbeats 2000000 in
theorem co_out13 (h : CoIs B w a g x c P T st) (C : CoPre BB x c st) (i : Nat) (hi : i < x.n) (u b z : Int) (hu : 0 ≤ u ∧ u ≤ 100000000000) (hp : sv st.T i = ⟨13, u, b, z⟩) :
    Calls Tryz.prog 201 #[.pointer (some ⟨x.l, 0, none⟩), .int .i64 i] w (CoMid B w a g x c P T st i ⟨13, u, b, z⟩) := by
  obtain ⟨y, v, S, hy, hv, hS, hs, hsp⟩ := h.loc hi
  have hp' : st.T[i]? = some (⟨13, u, b, z⟩ : Sp) := by rw [h.thr hi, hp]
  have hn := h.fx.n32
  have c8 := CoN.spots h
  have t2 : ¬ (i : Int) < 0 := by omega
  have hl1 := h.lk.lt
  have hs2 := h.sp.lt
  have HOF := Lib.hid (ofCo h i hi hy hv)
  have HNB := Lib.hid (fun w1 (b1 : Below w.heap.size w w1) => CoN.mk' h b1 y v)
  have x1 : IntKind.i64.wrap (u + 1) = u + 1 := IntWalk.i64_in _ (by omega)
  obtain ⟨ar', har⟩ : ∃ s, s = storeA st.s (c.cw (c.node i)) (u + 1) := ⟨_, rfl⟩
  have HO0 := (fun W (k : CoIs B W a g x c P T st) => co_store k C.ops (c.node i) hv (u + 1))
  rw [← har] at HO0
  have HO := Lib.hid HO0
  have HA := Lib.hid (fun W (s : Ar) (k : CoIs B W a g x c P T ⟨s, st.G, st.L, st.T⟩) => co_leaveL k i hi hy)
  have HX : Hid (coMv c st i ⟨13, u, b, z⟩ = (ar', st.G, setL c st i (leaveK (lsp st.L (c.node i) (c.slot i))), ⟨16, u, b, z⟩)) := Lib.hid (by rw [har]; rfl)
  have HC := Lib.hid (fun W st (k y v) (N : CoN B w W a g x c P T st k y v) (hp : st.T[i]? = some (⟨13, u, b, z⟩ : Sp)) => And.intro (CoN.ar N.is) (And.intro N.n1 (N.is.sp.cell hp 1 _ rfl)))
  have HP := Lib.hid hp'
  clear HO0 har
  clear h C hp hp' hy hv hS hs hsp
  go_enter Tryz.func201, Tryz.ntmps201
  go_wp2_with fail
  refine HOF.out.mono ?_
  rintro en w1 ⟨rfl, b1⟩
  have N1 := Lib.hid (HNB.out w1 b1)
  have hb1 := b1.size
  have e0 := N1.out.is.sp.cell HP.out 0 _ rfl
  simp only [Nat.add_zero] at e0
  have k0 := N1.out.n0
  have k6 := CoN.glo N1.out.is
  clear b1
  have N1d := Lib.hid N1.out.drew
  go_wp2_with fail
  go_region_held3 (fun W => W.cell? ⟨x.l, 0, none⟩ = some (.pointer (some ⟨a, 0, none⟩)) ∧ W.cell? ⟨w1.heap.size, 1, none⟩ = some (.int .i64 v) ∧ W.cell? ⟨x.qs, i * 4 + 1, none⟩ = some (.int .i64 u))
    (first | with_reducible exact HC.out _ _ _ _ _ N1d.out HP.out | with_reducible exact HC.out _ _ _ _ _ N2.out HP.out)
    (first
      | (go_at_call 144; go_loud (refine (HO.out _ N1d.out.is).mono ?_); rintro en w3 ⟨rfl, k3, t3⟩; have N2 := Lib.hid (N1d.out.to k3 t3); clear k3 t3))
  all_goals
    have k0' := N2.out.n0
    go_wp2_with fail
    refine (HA.out _ _ N2.out.is).mono ?_
    rintro en w4 ⟨⟨bb, rfl⟩, k4, t4⟩
    have N4 := Lib.hid (N2.out.to k4 t4)
    clear k4 t4
    go_wp2
    go_ret
    exact coMidS i _ HP.out HX.out rfl rfl rfl N4.out.is N4.out.tn

set_option maxRecDepth 100000 in
set_option maxHeartbeats 2000000 in
theorem co_out14 (h : CoIs B w a g x c P T st) (C : CoPre BB x c st) (i : Nat) (hi : i < x.n) (u b z : Int) (hp : sv st.T i = ⟨14, u, b, z⟩) :
    Calls Tryz.prog 201 #[.pointer (some ⟨x.l, 0, none⟩), .int .i64 i] w (CoMid B w a g x c P T st i ⟨14, u, b, z⟩) := by
  obtain ⟨y, v, S, hy, hv, hS, hs, hsp⟩ := h.loc hi
  have hp' : st.T[i]? = some (⟨14, u, b, z⟩ : Sp) := by rw [h.thr hi, hp]
  have hn := h.fx.n32
  have c8 := CoN.spots h
  have t2 : ¬ (i : Int) < 0 := by omega
  have hl1 := h.lk.lt
  have hs2 := h.sp.lt
  have HOF := Lib.hid (ofCo h i hi hy hv)
  have HNB := Lib.hid (fun w1 (b1 : Below w.heap.size w w1) => CoN.mk' h b1 y v)
  obtain ⟨ar', har⟩ : ∃ s, s = storeA st.s (c.cw (c.node i)) 0 := ⟨_, rfl⟩
  have HO0 := (fun W (k : CoIs B W a g x c P T st) => co_store k C.ops (c.node i) hv 0)
  rw [← har] at HO0
  have HO := Lib.hid HO0
  have HA := Lib.hid (fun W (s : Ar) (k : CoIs B W a g x c P T ⟨s, st.G, st.L, st.T⟩) => co_leaveG k i hi)
  have HX : Hid (coMv c st i ⟨14, u, b, z⟩ = (ar', st.G.set (c.node i) (leaveK (sv st.G (c.node i))), st.L, ⟨15, u, b, z⟩)) := Lib.hid (by rw [har]; rfl)
  have HC := Lib.hid (fun W st (k y v) (N : CoN B w W a g x c P T st k y v) => And.intro (CoN.ar N.is) N.n1)
  have HP := Lib.hid hp'
  clear HO0 har
  clear h C hp hp' hy hv hS hs hsp
  go_enter Tryz.func201, Tryz.ntmps201
  go_wp2_with fail
  refine HOF.out.mono ?_
  rintro en w1 ⟨rfl, b1⟩
  have N1 := Lib.hid (HNB.out w1 b1)
  have hb1 := b1.size
  have e0 := N1.out.is.sp.cell HP.out 0 _ rfl
  simp only [Nat.add_zero] at e0
  have k0 := N1.out.n0
  have k6 := CoN.glo N1.out.is
  clear b1
  have N1d := Lib.hid N1.out.drew
  go_wp2_with fail
  go_region_held3 (fun W => W.cell? ⟨x.l, 0, none⟩ = some (.pointer (some ⟨a, 0, none⟩)) ∧ W.cell? ⟨w1.heap.size, 1, none⟩ = some (.int .i64 v))
    (first | with_reducible exact HC.out _ _ _ _ _ N1d.out | with_reducible exact HC.out _ _ _ _ _ N2.out)
    (first
      | (go_at_call 144; go_loud (refine (HO.out _ N1d.out.is).mono ?_); rintro en w3 ⟨rfl, k3, t3⟩; have N2 := Lib.hid (N1d.out.to k3 t3); clear k3 t3))
  all_goals
    have k6' := CoN.glo N2.out.is
    go_wp2_with fail
    refine (HA.out _ _ N2.out.is).mono ?_
    rintro en w4 ⟨⟨bb, rfl⟩, k4, t4⟩
    have N4 := Lib.hid (N2.out.to k4 t4)
    clear k4 t4
    go_wp2
    go_ret
    exact coMidS i _ HP.out HX.out rfl rfl rfl N4.out.is N4.out.tn

set_option maxRecDepth 100000 in
set_option maxHeartbeats 2000000 in
theorem co_out15 (h : CoIs B w a g x c P T st) (C : CoPre BB x c st) (i : Nat) (hi : i < x.n) (u b z : Int) (hp : sv st.T i = ⟨15, u, b, z⟩) :
    Calls Tryz.prog 201 #[.pointer (some ⟨x.l, 0, none⟩), .int .i64 i] w (CoMid B w a g x c P T st i ⟨15, u, b, z⟩) := by
  obtain ⟨y, v, S, hy, hv, hS, hs, hsp⟩ := h.loc hi
  have hp' : st.T[i]? = some (⟨15, u, b, z⟩ : Sp) := by rw [h.thr hi, hp]
  have hn := h.fx.n32
  have c8 := CoN.spots h
  have t2 : ¬ (i : Int) < 0 := by omega
  have hl1 := h.lk.lt
  have hs2 := h.sp.lt
  have HOF := Lib.hid (ofCo h i hi hy hv)
  have HNB := Lib.hid (fun w1 (b1 : Below w.heap.size w w1) => CoN.mk' h b1 y v)
  obtain ⟨r, hr⟩ : ∃ r, r = stG c st i := ⟨_, rfl⟩
  obtain ⟨q, hq⟩ : ∃ q, q = camG c st i := ⟨_, rfl⟩
  have HF0 := (fun W (k : CoIs B W a g x c P T st) => co_stepG k C i hi)
  rw [← hr, ← hq] at HF0
  have HF := Lib.hid HF0
  have HA := Lib.hid (fun W (s : Ar) (G' : List Sp) (k : CoIs B W a g x c P T ⟨s, G', st.L, st.T⟩) => co_leaveL k i hi hy)
  have HX : Hid (coMv c st i ⟨15, u, b, z⟩ = if q then (r.1, st.G.set (c.node i) r.2, setL c st i (leaveK (lsp st.L (c.node i) (c.slot i))), ⟨16, u, b, z⟩) else (r.1, st.G.set (c.node i) r.2, st.L, ⟨15, u, b, z⟩)) := Lib.hid (by rw [hr, hq]; rfl)
  have HP := Lib.hid hp'
  clear HF0 hr hq
  clear h C hp hp' hy hv hS hs hsp
  cases q
  all_goals
    go_enter Tryz.func201, Tryz.ntmps201
    go_wp2_with fail
    refine HOF.out.mono ?_
    rintro en w1 ⟨rfl, b1⟩
    have N1 := Lib.hid (HNB.out w1 b1)
    have hb1 := b1.size
    have e0 := N1.out.is.sp.cell HP.out 0 _ rfl
    simp only [Nat.add_zero] at e0
    have k0 := N1.out.n0
    have k6 := CoN.glo N1.out.is
    clear b1
    go_wp2_with fail
    refine (HF.out _ N1.out.is).mono ?_
    rintro en w2 ⟨rfl, k2, t2⟩
    have N2 := Lib.hid (N1.out.to k2 t2)
    have e2 := N2.out.is.sp.cell HP.out 0 _ rfl
    simp only [Nat.add_zero] at e2
    have k0' := N2.out.n0
    clear k2 t2 e0
    first
      | (go_wp2_with fail
         refine (HA.out _ _ _ N2.out.is).mono ?_
         rintro en w4 ⟨⟨bb, rfl⟩, k4, t4⟩
         have N4 := Lib.hid (N2.out.to k4 t4)
         clear k4 t4 e2
         go_wp2
         go_ret
         exact coMidS i _ HP.out HX.out rfl rfl rfl N4.out.is N4.out.tn)
      | (go_wp2
         go_ret
         exact coMidS i _ HP.out HX.out rfl rfl rfl N2.out.is N2.out.tn)

set_option maxRecDepth 100000 in
set_option maxHeartbeats 2000000 in
theorem co_out16 (h : CoIs B w a g x c P T st) (C : CoPre BB x c st) (i : Nat) (hi : i < x.n) (u b z : Int) (hp : sv st.T i = ⟨16, u, b, z⟩) :
    Calls Tryz.prog 201 #[.pointer (some ⟨x.l, 0, none⟩), .int .i64 i] w (CoMid B w a g x c P T st i ⟨16, u, b, z⟩) := by
  obtain ⟨y, v, S, hy, hv, hS, hs, hsp⟩ := h.loc hi
  have hp' : st.T[i]? = some (⟨16, u, b, z⟩ : Sp) := by rw [h.thr hi, hp]
  have hn := h.fx.n32
  have c8 := CoN.spots h
  have t2 : ¬ (i : Int) < 0 := by omega
  have hl1 := h.lk.lt
  have hs2 := h.sp.lt
  have HOF := Lib.hid (ofCo h i hi hy hv)
  have HNB := Lib.hid (fun w1 (b1 : Below w.heap.size w w1) => CoN.mk' h b1 y v)
  obtain ⟨r, hr⟩ : ∃ r, r = stL c st i := ⟨_, rfl⟩
  obtain ⟨q, hq⟩ : ∃ q, q = camL c st i := ⟨_, rfl⟩
  have HF0 := (fun W (k : CoIs B W a g x c P T st) => co_stepL k C i hi hy)
  rw [← hr, ← hq] at HF0
  have HF := Lib.hid HF0
  have HX : Hid (coMv c st i ⟨16, u, b, z⟩ = (r.1, st.G, setL c st i r.2, if q then ⟨0, u, b, z⟩ else ⟨16, u, b, z⟩)) := Lib.hid (by rw [hr, hq]; rfl)
  have HP := Lib.hid hp'
  clear HF0 hr hq
  clear h C hp hp' hy hv hS hs hsp
  cases q
  all_goals
    go_enter Tryz.func201, Tryz.ntmps201
    go_wp2_with fail
    refine HOF.out.mono ?_
    rintro en w1 ⟨rfl, b1⟩
    have N1 := Lib.hid (HNB.out w1 b1)
    have hb1 := b1.size
    have e0 := N1.out.is.sp.cell HP.out 0 _ rfl
    simp only [Nat.add_zero] at e0
    have k0 := N1.out.n0
    have k6 := CoN.glo N1.out.is
    clear b1
    go_wp2_with fail
    refine (HF.out _ N1.out.is).mono ?_
    rintro en w2 ⟨rfl, k2, t2⟩
    have N2 := Lib.hid (N1.out.to k2 t2)
    have e2 := N2.out.is.sp.cell HP.out 0 _ rfl
    simp only [Nat.add_zero] at e2
    clear k2 t2 e0
    go_wp2
    go_ret
    exact coMidS i _ HP.out HX.out rfl rfl rfl N2.out.is N2.out.tn
end
end Go.Proofs.YtagajjilccjplaaGreat
end
section
set_option linter.unusedVariables false
set_option linter.unusedSimpArgs false
/- Layer 24 (cohort): Step, Ask, Leave, Passed, Global (printed by gen_co6.py). -/
namespace Go.Proofs.YtagajjilccjplaaGreat
open Go.RowKit

section
variable {B : Nat → Prop} {w w' w0 : World} {a g : Nat} {x : Cox} {c : CoC} {P T : List Int} {st st' : Co} {s' : Ar} {BB : Int}
theorem co_in (h : CoIs B w a g x c P T st) (C : CoPre BB x c st) (i : Nat) (hi : i < x.n) (p : Sp) (hp : sv st.T i = p) (h0 : 0 < p.pc) (h1 : p.pc < 10) :
    Calls Tryz.prog 200 #[.pointer (some ⟨x.l, 0, none⟩), .int .i64 i] w (CoMid B w a g x c P T st i p) := by
  have hk := C.v.k i hi
  rw [hp] at hk
  obtain ⟨pc, u, b, z⟩ := p
  simp only at h0 h1
  have hc : pc = 1 ∨ pc = 2 ∨ pc = 3 ∨ pc = 4 := by unfold linkP at hk; simp only at hk; omega
  rcases hc with rfl | rfl | rfl | rfl
  · exact co_in1 h C i hi u b z hp
  · exact co_in2 h C i hi u b z hp
  · exact co_in3 h C i hi u b z hp
  · exact co_in4 h C i hi u b z hp
theorem co_out (h : CoIs B w a g x c P T st) (C : CoPre BB x c st) (i : Nat) (hi : i < x.n) (p : Sp) (hp : sv st.T i = p) (h1 : 10 < p.pc) :
    Calls Tryz.prog 201 #[.pointer (some ⟨x.l, 0, none⟩), .int .i64 i] w (CoMid B w a g x c P T st i p) := by
  have hk := C.v.k i hi
  have ht := C.bd.tsp (by have := C.B0; omega) i
  have hB := C.B1
  rw [hp] at hk ht
  obtain ⟨pc, u, b, z⟩ := p
  simp only at h1 ht
  have hc : pc = 11 ∨ pc = 12 ∨ pc = 13 ∨ pc = 14 ∨ pc = 15 ∨ pc = 16 := by unfold linkP at hk; simp only at hk; omega
  rcases hc with rfl | rfl | rfl | rfl | rfl | rfl
  · exact co_out11 h C i hi u b z hp
  · exact co_out12 h C i hi u b z (by unfold linkP at hk; simp only at hk; omega) hp
  · exact co_out13 h C i hi u b z (by omega) hp
  · exact co_out14 h C i hi u b z hp
  · exact co_out15 h C i hi u b z hp
  · exact co_out16 h C i hi u b z hp
/-- behind a step -/
def CoAct (B : Nat → Prop) (w : World) (a g : Nat) (x : Cox) (c : CoC) (P T : List Int) (st' : Co) (r : Bool) (e : Ending) (w' : World) : Prop :=
  e = .returned (.bool r) ∧ CoIs B w' a g x c P T st' ∧ Turns (CoS a g x) w w'
theorem co_step0 (h : CoIs B w a g x c P T st) (i : Nat) (hi : i < x.n) (hc : (sv st.T i).pc = 0 ∨ (sv st.T i).pc = 10) :
    Calls Tryz.prog 195 #[.pointer (some ⟨x.l, 0, none⟩), .int .i64 i] w (CoAct B w a g x c P T (coStep c st i) (cameK (sv st.T i) (sv (coStep c st i).T i))) := by
  have HS := Lib.hid (spotCo h i hi)
  have H := Lib.hid h
  have e1 : coStep c st i = st := by unfold coStep; rw [if_pos hc]
  rw [e1]
  have e2 : cameK (sv st.T i) (sv st.T i) = false := by
    unfold cameK
    rcases hc with hc | hc <;> simp [hc]
  rw [e2]
  obtain ⟨p, hp⟩ : ∃ p, p = sv st.T i := ⟨_, rfl⟩
  rw [← hp] at hc HS
  clear e1 e2 hp h
  obtain ⟨pc, u, b, z⟩ := p
  simp only at hc
  unfold spotV at HS
  have hfield := field_pc
  rcases hc with rfl | rfl
  all_goals
    go_enter Tryz.func195, Tryz.ntmps195
    go_wp2_with fail
    refine HS.out.mono ?_
    rintro en w1 ⟨rfl, b1⟩
    have HB := Lib.hid b1
    clear b1
    go_wp2
    go_ret
    exact ⟨rfl, H.out.below HB.out, Turns.of_below HB.out⟩
set_option maxRecDepth 100000 in
set_option maxHeartbeats 2000000 in
theorem co_step_in (h : CoIs B w a g x c P T st) (C : CoPre BB x c st) (i : Nat) (hi : i < x.n) (hc : 0 < (sv st.T i).pc ∧ (sv st.T i).pc < 10) :
    Calls Tryz.prog 195 #[.pointer (some ⟨x.l, 0, none⟩), .int .i64 i] w (CoAct B w a g x c P T (coStep c st i) (cameK (sv st.T i) (sv (coStep c st i).T i))) := by
  have hT := h.thr hi
  have hlen : i < st.T.length := by rw [h.lS]; exact hi
  have HS := Lib.hid (spotCo h i hi)
  have hn := h.fx.n32
  have hl1 := h.lk.lt
  have hs2 := h.sp.lt
  have t2 : ¬ (i : Int) < 0 := by omega
  obtain ⟨p, hp⟩ : ∃ p, p = sv st.T i := ⟨_, rfl⟩
  have hI := (fun W (k : CoIs B W a g x c P T st) => co_in k C i hi p hp.symm)
  rw [← hp] at hc HS hT
  have HI := Lib.hid (fun W (k : CoIs B W a g x c P T st) => hI W k hc.1 hc.2)
  obtain ⟨m, hm⟩ : ∃ m, m = coMv c st i p := ⟨_, rfl⟩
  have HM := Lib.hid hm
  have e1 : coStep c st i = coSet st i m := by unfold coStep; rw [← hp, if_neg (by omega), hm]
  rw [e1]
  have e2 : sv (coSet st i m).T i = m.2.2.2 := by show sv (st.T.set i m.2.2.2) i = _; rw [sv_set, if_pos ⟨rfl, hlen⟩]
  rw [e2, ← hp]
  have q1 : ¬ p.pc = 0 := by omega
  have q2 : ¬ p.pc = 10 := by omega
  have HQ : Hid (cameK p m.2.2.2 = ((m.2.2.2.pc == 10) || (m.2.2.2.pc == 0))) := Lib.hid (by
    unfold cameK
    simp only [q1, q2, ne_eq, not_false_eq_true, and_true, Bool.decide_or]
    rfl)
  have u1 : (p.pc == 0) = false := by simpa using q1
  have u2 : (p.pc == 10) = false := by simpa using q2
  have u3 : decide (p.pc < 10) = true := by simpa using hc.2
  obtain ⟨s1, G1, L1, r⟩ := m
  simp only at HQ e1
  have HC := Lib.hid (fun W st (k : CoIs B W a g x c P T st) => CoN.spots k)
  have HT := Lib.hid hT
  have H := Lib.hid h
  have HX : Hid (coPc c st i p = ⟨s1, G1, L1, st.T.set i { r with pc := p.pc }⟩) := Lib.hid (by unfold coPc; rw [← hm]; rfl)
  have HR : Hid ((coMv c st i p).2.2.2.pc = r.pc) := Lib.hid (by rw [← hm])
  clear hI h C hp hT hm e1 e2 q1 q2 hc hlen
  obtain ⟨pc, u, b, z⟩ := p
  obtain ⟨pc', u', b', z'⟩ := r
  simp only at u1 u2 u3 HQ HR
  unfold spotV at HS
  have hfield := field_pc
  cases v1 : (pc' == 10) <;> cases v2 : (pc' == 0)
  all_goals
    go_enter Tryz.func195, Tryz.ntmps195
    go_wp2_with fail
    refine HS.out.mono ?_
    rintro en w1 ⟨rfl, b1⟩
    have K1 := Lib.hid (H.out.below b1.drew)
    have T1 := Lib.hid (Turns.of_below (S := CoS a g x) b1.drew)
    have hb1 := b1.size
    clear b1
    go_wp2_with fail
    go_region_held3 (fun W => W.cell? ⟨x.l, 8, none⟩ = some (.slice (some ⟨x.qs, 0, none⟩) x.n x.n))
      (first | with_reducible exact HC.out _ _ K1.out | with_reducible exact HC.out _ _ K2.out | with_reducible exact HC.out _ _ K3.out)
      (first
        | (go_at_call 200; go_loud (refine (HI.out _ K1.out).mono ?_); rintro en w3 ⟨he, k3, t3⟩; rw [HR.out] at he; subst he; rw [HX.out] at k3; have K2 := Lib.hid k3; have T2 := Lib.hid (T1.out.trans t3); have K3 := Lib.hid (K2.out.put0 (p' := (⟨pc', u', b', z'⟩ : Sp)) (getS_set HT.out _) (u := .int .i64 pc') rfl); have e1 := K2.out.sp.cell (getS_set HT.out _) 0 _ rfl; have z1 := K2.out.sp.free (i * 4); simp only [Nat.add_zero] at e1; clear k3 t3))
  all_goals
    have e4 := K3.out.sp.cell (getS_set (getS_set HT.out _) _) 0 _ rfl
    have c8' := HC.out _ _ K3.out
    simp only [Nat.add_zero] at e4
    clear e1 z1
    go_wp2
    go_ret
    refine ⟨by rw [HQ.out, v1, v2]; rfl, ?_, T2.out.trans (tS_qs _ _)⟩
    have k := K3.out
    rw [show (({ s := s1, G := G1, L := L1, T := (st.T.set i { (⟨pc', u', b', z'⟩ : Sp) with pc := pc }).set i ⟨pc', u', b', z'⟩ } : Co)) = coSet st i (s1, G1, L1, ⟨pc', u', b', z'⟩) from by unfold coSet; simp] at k
    exact k
set_option maxRecDepth 100000 in
set_option maxHeartbeats 2000000 in
theorem co_step_out (h : CoIs B w a g x c P T st) (C : CoPre BB x c st) (i : Nat) (hi : i < x.n) (hc : 10 < (sv st.T i).pc) :
    Calls Tryz.prog 195 #[.pointer (some ⟨x.l, 0, none⟩), .int .i64 i] w (CoAct B w a g x c P T (coStep c st i) (cameK (sv st.T i) (sv (coStep c st i).T i))) := by
  have hT := h.thr hi
  have hlen : i < st.T.length := by rw [h.lS]; exact hi
  have HS := Lib.hid (spotCo h i hi)
  have hn := h.fx.n32
  have hl1 := h.lk.lt
  have hs2 := h.sp.lt
  have t2 : ¬ (i : Int) < 0 := by omega
  obtain ⟨p, hp⟩ : ∃ p, p = sv st.T i := ⟨_, rfl⟩
  have hI := (fun W (k : CoIs B W a g x c P T st) => co_out k C i hi p hp.symm)
  rw [← hp] at hc HS hT
  have HI := Lib.hid (fun W (k : CoIs B W a g x c P T st) => hI W k hc)
  obtain ⟨m, hm⟩ : ∃ m, m = coMv c st i p := ⟨_, rfl⟩
  have HM := Lib.hid hm
  have e1 : coStep c st i = coSet st i m := by unfold coStep; rw [← hp, if_neg (by omega), hm]
  rw [e1]
  have e2 : sv (coSet st i m).T i = m.2.2.2 := by show sv (st.T.set i m.2.2.2) i = _; rw [sv_set, if_pos ⟨rfl, hlen⟩]
  rw [e2, ← hp]
  have q1 : ¬ p.pc = 0 := by omega
  have q2 : ¬ p.pc = 10 := by omega
  have HQ : Hid (cameK p m.2.2.2 = ((m.2.2.2.pc == 10) || (m.2.2.2.pc == 0))) := Lib.hid (by
    unfold cameK
    simp only [q1, q2, ne_eq, not_false_eq_true, and_true, Bool.decide_or]
    rfl)
  have u1 : (p.pc == 0) = false := by simpa using q1
  have u2 : (p.pc == 10) = false := by simpa using q2
  have u3 : decide (p.pc < 10) = false := by simp; omega
  obtain ⟨s1, G1, L1, r⟩ := m
  simp only at HQ e1
  have HC := Lib.hid (fun W st (k : CoIs B W a g x c P T st) => CoN.spots k)
  have HT := Lib.hid hT
  have H := Lib.hid h
  have HX : Hid (coPc c st i p = ⟨s1, G1, L1, st.T.set i { r with pc := p.pc }⟩) := Lib.hid (by unfold coPc; rw [← hm]; rfl)
  have HR : Hid ((coMv c st i p).2.2.2.pc = r.pc) := Lib.hid (by rw [← hm])
  clear hI h C hp hT hm e1 e2 q1 q2 hc hlen
  obtain ⟨pc, u, b, z⟩ := p
  obtain ⟨pc', u', b', z'⟩ := r
  simp only at u1 u2 u3 HQ HR
  unfold spotV at HS
  have hfield := field_pc
  cases v1 : (pc' == 10) <;> cases v2 : (pc' == 0)
  all_goals
    go_enter Tryz.func195, Tryz.ntmps195
    go_wp2_with fail
    refine HS.out.mono ?_
    rintro en w1 ⟨rfl, b1⟩
    have K1 := Lib.hid (H.out.below b1.drew)
    have T1 := Lib.hid (Turns.of_below (S := CoS a g x) b1.drew)
    have hb1 := b1.size
    clear b1
    go_wp2_with fail
    go_region_held3 (fun W => W.cell? ⟨x.l, 8, none⟩ = some (.slice (some ⟨x.qs, 0, none⟩) x.n x.n))
      (first | with_reducible exact HC.out _ _ K1.out | with_reducible exact HC.out _ _ K2.out | with_reducible exact HC.out _ _ K3.out)
      (first
        | (go_at_call 201; go_loud (refine (HI.out _ K1.out).mono ?_); rintro en w3 ⟨he, k3, t3⟩; rw [HR.out] at he; subst he; rw [HX.out] at k3; have K2 := Lib.hid k3; have T2 := Lib.hid (T1.out.trans t3); have K3 := Lib.hid (K2.out.put0 (p' := (⟨pc', u', b', z'⟩ : Sp)) (getS_set HT.out _) (u := .int .i64 pc') rfl); have e1 := K2.out.sp.cell (getS_set HT.out _) 0 _ rfl; have z1 := K2.out.sp.free (i * 4); simp only [Nat.add_zero] at e1; clear k3 t3))
  all_goals
    have e4 := K3.out.sp.cell (getS_set (getS_set HT.out _) _) 0 _ rfl
    have c8' := HC.out _ _ K3.out
    simp only [Nat.add_zero] at e4
    clear e1 z1
    go_wp2
    go_ret
    refine ⟨by rw [HQ.out, v1, v2]; rfl, ?_, T2.out.trans (tS_qs _ _)⟩
    have k := K3.out
    rw [show (({ s := s1, G := G1, L := L1, T := (st.T.set i { (⟨pc', u', b', z'⟩ : Sp) with pc := pc }).set i ⟨pc', u', b', z'⟩ } : Co)) = coSet st i (s1, G1, L1, ⟨pc', u', b', z'⟩) from by unfold coSet; simp] at k
    exact k
theorem stepCo (h : CoIs B w a g x c P T st) (C : CoPre BB x c st) (i : Nat) (hi : i < x.n) :
    Calls Tryz.prog 195 #[.pointer (some ⟨x.l, 0, none⟩), .int .i64 i] w (CoAct B w a g x c P T (coStep c st i) (cameK (sv st.T i) (sv (coStep c st i).T i))) := by
  have hk := C.v.k i hi
  by_cases h0 : (sv st.T i).pc = 0 ∨ (sv st.T i).pc = 10
  · exact co_step0 h i hi h0
  by_cases h1 : (sv st.T i).pc < 10
  · exact co_step_in h C i hi (by unfold linkP at hk; omega)
  · exact co_step_out h C i hi (by omega)
set_option maxRecDepth 100000 in
set_option maxHeartbeats 2000000 in
theorem askCo (h : CoIs B w a g x c P T st) (i : Nat) (hi : i < x.n) :
    Calls Tryz.prog 191 #[.pointer (some ⟨x.l, 0, none⟩), .int .i64 i] w (CoAct B w a g x c P T (coAsk c st i) (decide ((sv st.T i).pc = 0))) := by
  obtain ⟨y, v, S, hy, hv, hS, hs, hsp⟩ := h.loc hi
  have hT := h.thr hi
  have e0 := h.sp.cell hT 0 _ rfl
  simp only [Nat.add_zero] at e0
  have hn := h.fx.n32
  have c8 := CoN.spots h
  have hl1 := h.lk.lt
  have hs2 := h.sp.lt
  have t2 : ¬ (i : Int) < 0 := by omega
  have HH := Lib.hid (hasCo h i hi)
  have HOF := Lib.hid (ofCo h i hi hy hv)
  have HNB := Lib.hid (fun w1 (b1 : Below w.heap.size w w1) => CoN.mk' h b1 y v)
  have HA := Lib.hid (fun W (k : CoIs B W a g x c P T st) => co_askL k i hi hy)
  have H := Lib.hid h
  obtain ⟨st1, hst⟩ : ∃ s, s = coAsk c st i := ⟨_, rfl⟩
  rw [← hst]
  unfold coAsk at hst
  obtain ⟨L1, hL1⟩ : ∃ L, L = setL c st i (askK c.kl (lsp st.L (c.node i) (c.slot i))) := ⟨_, rfl⟩
  rw [← hL1] at hst HA
  obtain ⟨p, hp⟩ : ∃ p, p = sv st.T i := ⟨_, rfl⟩
  rw [← hp] at hst e0 hT ⊢
  have HT := Lib.hid hT
  have HE := Lib.hid hst
  clear h hy hv hS hs hsp hp hL1 hst hT
  obtain ⟨pc, u, b, z⟩ := p
  simp only at HE
  by_cases hpc : pc = 0
  · subst hpc
    go_enter Tryz.func191, Tryz.ntmps191
    go_wp2_with fail
    refine HH.out.mono ?_
    rintro en w1 ⟨rfl, rfl⟩
    go_wp2_with fail
    refine HOF.out.mono ?_
    rintro en w1 ⟨rfl, b1⟩
    have N1 := Lib.hid (HNB.out w1 b1)
    have hb1 := b1.size
    have k0 := N1.out.n0
    clear b1
    go_wp2_with fail
    refine (HA.out _ N1.out.is).mono ?_
    rintro en w2 ⟨⟨bb, rfl⟩, k2, t2'⟩
    have N2 := Lib.hid (N1.out.to k2 t2')
    have c8' := CoN.spots N2.out.is
    have e2 := N2.out.is.sp.cell HT.out 0 _ rfl
    have z2 := N2.out.is.sp.free (i * 4)
    simp only [Nat.add_zero] at e2
    clear k2 t2' k0
    have N3 := Lib.hid (N2.out.is.put0 (p' := (⟨1, u, b, z⟩ : Sp)) HT.out (u := .int .i64 1) rfl)
    have T3 := Lib.hid (N2.out.tn.trans (tS_qs (a := a) (g := g) (x := x) (w := w2) (i * 4) (.int .i64 1)))
    go_wp2
    go_ret
    refine ⟨rfl, ?_, T3.out⟩
    rw [HE.out]
    exact N3.out
  · have u1 : (pc != 0) = true := by simpa using hpc
    have e9 : decide (pc = 0) = false := by simpa using hpc
    show Calls _ _ _ _ (CoAct B w a g x c P T st1 (decide (pc = 0)))
    rw [e9]
    go_enter Tryz.func191, Tryz.ntmps191
    go_wp2_with fail
    refine HH.out.mono ?_
    rintro en w1 ⟨rfl, rfl⟩
    go_wp2
    go_ret
    refine ⟨rfl, ?_, Turns.refl _ _⟩
    rw [HE.out, if_neg hpc]
    exact H.out
set_option maxRecDepth 100000 in
set_option maxHeartbeats 2000000 in
theorem leaveCo (h : CoIs B w a g x c P T st) (i : Nat) (hi : i < x.n) :
    Calls Tryz.prog 193 #[.pointer (some ⟨x.l, 0, none⟩), .int .i64 i] w (CoAct B w a g x c P T (coLeave st i) (decide ((sv st.T i).pc = 10))) := by
  have hT := h.thr hi
  have hn := h.fx.n32
  have t2 : ¬ (i : Int) < 0 := by omega
  have HS := Lib.hid (spotCo h i hi)
  have H := Lib.hid h
  obtain ⟨st1, hst⟩ : ∃ s, s = coLeave st i := ⟨_, rfl⟩
  rw [← hst]
  unfold coLeave at hst
  obtain ⟨p, hp⟩ : ∃ p, p = sv st.T i := ⟨_, rfl⟩
  rw [← hp] at hst hT HS ⊢
  have HT := Lib.hid hT
  have HE := Lib.hid hst
  clear h hp hst hT
  obtain ⟨pc, u, b, z⟩ := p
  simp only at HE
  unfold spotV at HS
  have hfield := field_pc
  by_cases hpc : pc = 10
  · subst hpc
    go_enter Tryz.func193, Tryz.ntmps193
    go_wp2_with fail
    refine HS.out.mono ?_
    rintro en w1 ⟨rfl, b1⟩
    have K1 := Lib.hid (H.out.below b1)
    have T1 := Lib.hid (Turns.of_below (S := CoS a g x) b1)
    have c8' := CoN.spots K1.out
    have e2 := K1.out.sp.cell HT.out 0 _ rfl
    have z2 := K1.out.sp.free (i * 4)
    simp only [Nat.add_zero] at e2
    clear b1
    have N3 := Lib.hid (K1.out.put0 (p' := (⟨11, u, b, z⟩ : Sp)) HT.out (u := .int .i64 11) rfl)
    have T3 := Lib.hid (T1.out.trans (tS_qs (a := a) (g := g) (x := x) (w := w1) (i * 4) (.int .i64 11)))
    go_wp2
    go_ret
    refine ⟨rfl, ?_, T3.out⟩
    rw [HE.out]
    exact N3.out
  · have u1 : (pc != 10) = true := by simpa using hpc
    have e9 : decide (pc = 10) = false := by simpa using hpc
    show Calls _ _ _ _ (CoAct B w a g x c P T st1 (decide (pc = 10)))
    rw [e9]
    go_enter Tryz.func193, Tryz.ntmps193
    go_wp2_with fail
    refine HS.out.mono ?_
    rintro en w1 ⟨rfl, b1⟩
    have HB := Lib.hid b1
    clear b1
    go_wp2
    go_ret
    refine ⟨rfl, ?_, Turns.of_below HB.out⟩
    rw [HE.out, if_neg hpc]
    exact H.out.below HB.out
end
end Go.Proofs.YtagajjilccjplaaGreat
end
