/- Joined: Sm0, Sm4n, Ns3, Rs1. -/
import Derived.Test.YtmlcfmickonfbaaGreatMgReadersAll14
import Derived.Test.YtmlcfmickonfbaaGreatMgReadersAll15
section
set_option linter.unusedVariables false
set_option linter.unusedSimpArgs false
/- Layers 36 to 38: a lock of readers and writers in memory, over a cohort lock: what it is made of, and what an op of each part leaves. -/
namespace Go.Proofs.YtmlcfmickonfbaaGreat
open Go.RowKit

/-- where such a lock lies -/
structure SmX where
  l : Nat
  q : Nat
  b : Nat
  gg : Nat
  dd : Nat
  x : Cox
def smC (a : Nat) (X : SmX) (N n : Nat) : Array Value := #[.pointer (some ⟨a, 0, none⟩), .pointer (some ⟨X.b, 0, none⟩), .pointer (some ⟨X.gg, 0, none⟩), .pointer (some ⟨X.dd, 0, none⟩), .int .i64 (2 * (N : Int) + 1), .pointer (some ⟨X.x.l, 0, none⟩), .slice (some ⟨X.q, 0, none⟩) n n]
structure SmIs (ty : TypeId) (B BC : Nat → Prop) (w : World) (a g : Nat) (X : SmX) (c : CoC) (P T : List Int) (st : Co) (d : Dr) (U : List Sp) : Prop where
  lk : Blk w X.l ty (smC a X (leavesL P).length T.length)
  gd : GD w a g X.gg X.dd (leavesL P).length st.s d
  tb : TabQ B w X.b P T
  sp : SpR w X.q U
  co : CoIs BC w a g X.x c P T st
  lU : U.length = T.length
  o1 : ∀ i ∈ CoS a g X.x, i ≠ X.l ∧ i ≠ X.q ∧ i ≠ X.gg ∧ i ≠ X.dd ∧ ¬ B i
  o2 : ¬ CoBlk X.x BC X.q ∧ ¬ CoBlk X.x BC X.dd
  o3 : X.q ≠ X.l ∧ X.q ≠ X.gg ∧ X.q ≠ X.dd ∧ ¬ B X.q
  o4 : X.dd ≠ X.l ∧ X.dd ≠ X.gg ∧ ¬ B X.dd
section
variable {ty : TypeId} {B BC : Nat → Prop} {w w' : World} {a g : Nat} {X : SmX} {x : Cox} {c : CoC} {P T : List Int} {st st' : Co} {d d' : Dr} {U : List Sp} {s' : Ar} {S : List Nat}
/-- an op on the arena, and blocks that are none of the cohort lock's -/
theorem CoIs.arAway (h : CoIs BC w a g x c P T st) (t : Turns S w w') (ha : ArIs w' a g s') (hS : ∀ i ∈ S, i = a ∨ i = g ∨ ¬ CoBlk x BC i) : CoIs BC w' a g x c P T { st with s := s' } := by
  have nb : ∀ r u, x.o r = u → u ≠ 3 → CoBlk x BC r → r ∉ S := fun r u e hu hb hm => by
    rcases hS r hm with e1 | e1 | e1
    · rw [e1, h.fx.oa] at e; exact hu e.symm
    · rw [e1, h.fx.og] at e; exact hu e.symm
    · exact e1 hb
  obtain ⟨Z, z⟩ := h.nd
  refine ⟨h.fx, ha, t.blk h.lk (nb _ _ h.fx.ol (by decide) (.inl rfl)), h.tb.turns t (fun i hi hb => nb i _ (h.fx.oB i hb) (by decide) (.inr (.inr (.inr (.inr (.inr hb))))) hi), ⟨Z, t.blk z (nb _ _ h.fx.on (by decide) (.inr (.inl rfl)))⟩,
    h.sp.turns t (nb _ _ h.fx.os (by decide) (.inr (.inr (.inl rfl)))),
    h.gl.oth t ha (nb _ _ h.fx.oG.1 (by decide) (.inr (.inr (.inr (.inl (.inl rfl)))))) (nb _ _ h.fx.oG.2.1 (by decide) (.inr (.inr (.inr (.inl (.inr (.inl rfl))))))) (nb _ _ h.fx.oG.2.2 (by decide) (.inr (.inr (.inr (.inl (.inr (.inr rfl))))))),
    fun n y S' hy hS' => ?_, h.lL, h.lG, h.lS, h.sl⟩
  have hm : y ∈ x.X := List.mem_of_getElem? hy
  have ho := h.fx.oL n y hy
  exact (h.lo n y S' hy hS').oth t ha (nb _ _ ho.1 (by omega) (.inr (.inr (.inr (.inr (.inl ⟨y, hm, .inl rfl⟩)))))) (nb _ _ ho.2.1 (by omega) (.inr (.inr (.inr (.inr (.inl ⟨y, hm, .inr (.inl rfl)⟩)))))) (nb _ _ ho.2.2 (by omega) (.inr (.inr (.inr (.inr (.inl ⟨y, hm, .inr (.inr rfl)⟩))))))
theorem SmIs.agS (h : SmIs ty B BC w a g X c P T st d U) : (a ≠ X.l ∧ a ≠ X.q ∧ a ≠ X.gg ∧ a ≠ X.dd ∧ ¬ B a) ∧ (g ≠ X.l ∧ g ≠ X.q ∧ g ≠ X.gg ∧ g ≠ X.dd ∧ ¬ B g) :=
  ⟨h.o1 a (by unfold CoS; simp), h.o1 g (by unfold CoS; simp)⟩
/-- the cohort lock has turned -/
theorem SmIs.coT (h : SmIs ty B BC w a g X c P T st d U) (t : Turns (CoS a g X.x) w w') (k : CoIs BC w' a g X.x c P T st') : SmIs ty B BC w' a g X c P T st' d U :=
  { h with lk := t.blk h.lk (fun m => (h.o1 _ m).1 rfl), gd := { h.gd with ar := k.ar, ga := t.blk h.gd.ga (fun m => (h.o1 _ m).2.2.1 rfl), dr := t.blk h.gd.dr (fun m => (h.o1 _ m).2.2.2.1 rfl) }, tb := h.tb.turns t (fun i hi => (h.o1 i hi).2.2.2.2), sp := h.sp.turns t (fun m => (h.o1 _ m).2.1 rfl), co := k }
/-- gauge or drain, or the arena by itself -/
theorem SmIs.gdT (h : SmIs ty B BC w a g X c P T st d U) (t : Turns [a, g, X.dd] w w') (k : GD w' a g X.gg X.dd (leavesL P).length s' d') : SmIs ty B BC w' a g X c P T { st with s := s' } d' U := by
  obtain ⟨ha, hg⟩ := h.agS
  have hm : ∀ r, r ≠ a → r ≠ g → r ≠ X.dd → r ∉ [a, g, X.dd] := fun r h1 h2 h3 => by simp [h1, h2, h3]
  refine { h with lk := t.blk h.lk (hm _ (fun e => ha.1 e.symm) (fun e => hg.1 e.symm) (fun e => h.o4.1 e.symm)), gd := k, tb := h.tb.turns t (fun i hi hb => ?_), sp := h.sp.turns t (hm _ (fun e => ha.2.1 e.symm) (fun e => hg.2.1 e.symm) h.o3.2.2.1), co := h.co.arAway t k.ar (fun i hi => ?_) }
  · simp at hi
    rcases hi with rfl | rfl | rfl
    · exact ha.2.2.2.2 hb
    · exact hg.2.2.2.2 hb
    · exact h.o4.2.2 hb
  · simp at hi
    rcases hi with rfl | rfl | rfl
    · exact .inl rfl
    · exact .inr (.inl rfl)
    · exact .inr (.inr h.o2.2)
theorem SmIs.arT (h : SmIs ty B BC w a g X c P T st d U) (t : Turns [a, g] w w') (ha : ArIs w' a g s') : SmIs ty B BC w' a g X c P T { st with s := s' } d U :=
  h.gdT (turns_agq t) (h.gd.op t ha)
/-- a store into a thread's spot -/
theorem SmIs.put (h : SmIs ty B BC w a g X c P T st d U) {i : Nat} {p p' : Sp} (hp : U[i]? = some p) {j : Nat} {u : Value} (hj : j < 4) (he : (encP4 p).set j u = encP4 p') : SmIs ty B BC (w.setCell ⟨X.q, i * 4 + j, none⟩ u) a g X c P T st d (U.set i p') := by
  obtain ⟨ha, hg⟩ := h.agS
  have t : Turns [X.q] w (w.setCell ⟨X.q, i * 4 + j, none⟩ u) := turns_q _ _ _
  have hA := h.gd.ar.turns t (by simp; exact ha.2.1) (by simp; exact hg.2.1)
  have k := h.co.arAway t (s' := st.s) hA (fun i hi => .inr (.inr (by simp at hi; rw [hi]; exact h.o2.1)))
  refine { h with lk := t.blk h.lk (by simp; exact fun e => h.o3.1 e.symm), gd := { h.gd with ar := hA, ga := t.blk h.gd.ga (by simp; exact fun e => h.o3.2.1 e.symm), dr := t.blk h.gd.dr (by simp; exact fun e => h.o3.2.2.1 e.symm) }, tb := h.tb.turns t (fun i hi => by simp at hi; rw [hi]; exact h.o3.2.2.2), sp := h.sp.put hp hj he, co := k, lU := by rw [List.length_set]; exact h.lU }
theorem SmIs.put0 (h : SmIs ty B BC w a g X c P T st d U) {i : Nat} {p p' : Sp} (hp : U[i]? = some p) {u : Value} (he : (encP4 p).set 0 u = encP4 p') : SmIs ty B BC (w.setCell ⟨X.q, i * 4, none⟩ u) a g X c P T st d (U.set i p') := h.put hp (j := 0) (by decide) he
theorem SmIs.below (h : SmIs ty B BC w a g X c P T st d U) (b : Below w.heap.size w w') : SmIs ty B BC w' a g X c P T st d U :=
  have t : Turns [] w w' := Turns.of_below b
  { h with lk := t.blk h.lk (by simp), gd := h.gd.below b, tb := h.tb.turns t (by simp), sp := h.sp.turns t (by simp), co := h.co.below b }
theorem SmIs.qt (h : SmIs ty B BC w a g X c P T st d U) (n : Nat) : SmIs ty B BC (w.drewN n) a g X c P T st d U := h.below (Qt.below ⟨n, rfl⟩ _)
theorem SmIs.nT (h : SmIs ty B BC w a g X c P T st d U) : X.x.n = T.length ∧ X.x.N = (leavesL P).length ∧ T.length ≤ 32 ∧ (leavesL P).length ≤ 32 := by
  have := h.co.fx.n32
  have e1 := h.co.fx.nT
  have e2 := h.co.fx.nN
  exact ⟨e1, e2, by omega, by omega⟩
theorem SmIs.thr (h : SmIs ty B BC w a g X c P T st d U) {i : Nat} (hi : i < T.length) : U[i]? = some (sv U i) := by
  have : i < U.length := by rw [h.lU]; exact hi
  unfold sv
  rw [List.getD_eq_getElem?_getD, List.getElem?_eq_getElem this]; rfl
theorem SmIs.cs (h : SmIs ty B BC w a g X c P T st d U) : w.cell? ⟨X.l, 0, none⟩ = some (.pointer (some ⟨a, 0, none⟩)) ∧ w.cell? ⟨X.l, 1, none⟩ = some (.pointer (some ⟨X.b, 0, none⟩)) ∧ w.cell? ⟨X.l, 2, none⟩ = some (.pointer (some ⟨X.gg, 0, none⟩)) ∧ w.cell? ⟨X.l, 3, none⟩ = some (.pointer (some ⟨X.dd, 0, none⟩)) ∧ w.cell? ⟨X.l, 4, none⟩ = some (.int .i64 (2 * ((leavesL P).length : Int) + 1)) ∧ w.cell? ⟨X.l, 5, none⟩ = some (.pointer (some ⟨X.x.l, 0, none⟩)) ∧ w.cell? ⟨X.l, 6, none⟩ = some (.slice (some ⟨X.q, 0, none⟩) T.length T.length) :=
  ⟨h.lk.cell 0, h.lk.cell 1, h.lk.cell 2, h.lk.cell 3, h.lk.cell 4, h.lk.cell 5, h.lk.cell 6⟩
/-- what turns -/
def SmS (a g : Nat) (X : SmX) : List Nat := X.q :: X.dd :: CoS a g X.x
theorem smS_co (t : Turns (CoS a g X.x) w w') : Turns (SmS a g X) w w' := t.mono (fun i hi => by unfold SmS; simp [hi])
theorem smS_gd (t : Turns [a, g, X.dd] w w') : Turns (SmS a g X) w w' := t.mono (fun i hi => by unfold SmS CoS; simp at hi ⊢; rcases hi with rfl | rfl | rfl <;> simp)
theorem smS_ag (t : Turns [a, g] w w') : Turns (SmS a g X) w w' := t.mono (fun i hi => by unfold SmS CoS; simp at hi ⊢; rcases hi with rfl | rfl <;> simp)
theorem smS_q (i : Nat) (u : Value) : Turns (SmS a g X) w (w.setCell ⟨X.q, i, none⟩ u) := (turns_q _ _ _).mono (fun i hi => by unfold SmS; simp at hi; simp [hi])
end
end Go.Proofs.YtmlcfmickonfbaaGreat
end
section
set_option linter.unusedVariables false
set_option linter.unusedSimpArgs false
/- Layer 36 (neutral): New over the cohort lock, exactly. (printed by gen_sm4.py out of XQn4) -/
namespace Go.Proofs.YtmlcfmickonfbaaGreat
open Go.RowKit

def dr0 : Dr := ⟨0, 0, false, false, false, 0, false⟩
theorem drNewX (w : World) (gg : Nat) : Calls Tryz.prog 28 #[.pointer (some ⟨gg, 0, none⟩)] w fun e w' => ∃ d, e = .returned (.pointer (some ⟨d, 0, none⟩)) ∧ Below w.heap.size w w' ∧ Blk w' d 106 (drC gg dr0) ∧ d = w.heap.size := by
  go_enter Tryz.func28, Tryz.ntmps28
  go_wp2
  go_ret
  exact ⟨_, rfl, (Below.refl _ _).alloc (Nat.le_refl _) _, Blk.new w 106 (drC gg dr0), rfl⟩
/-- the arena ahead of the cohort lock -/
def smA (s : Ar) (N : Nat) : Ar := takeS (takeS s (2 * N)) 1
def NewSm (ty : TypeId) (w : World) (a g : Nat) (s : Ar) (kg kl par : Nat) (bud : Int) (P T : List Int) (e : Ending) (w' : World) : Prop :=
  ∃ (B BC : Nat → Prop) (X : SmX), e = .returned (.tuple #[.pointer (some ⟨X.l, 0, none⟩), .int .i64 0]) ∧ SmIs ty B BC w' a g X (coCN kg kl par bud P T (smA s (leavesL P).length)) P T (coStN kg kl par P T (smA s (leavesL P).length)) dr0 (List.replicate T.length Sp.zero) ∧ (∀ i ∈ SmS a g X, i = a ∨ i = g ∨ w.heap.size ≤ i) ∧ Turns [a, g] w w'
end Go.Proofs.YtmlcfmickonfbaaGreat
end
section
set_option linter.unusedVariables false
set_option linter.unusedSimpArgs false
/- Layer 36 (neutral), plain: bounds and ops over acts; the new lock. No program in sight. -/
namespace Go.Proofs.YtmlcfmickonfbaaGreat
open Go Go.RowKit

theorem svR (k i : Nat) : sv (List.replicate k Sp.zero) i = Sp.zero := by
  unfold sv
  rw [List.getD_eq_getElem?_getD, List.getElem?_replicate]
  split <;> rfl
section
variable {c : CoC} {n N L : Nat} {ml : Nat → Nat} {x : Nu} {st : Co} {B : Int} {o : Nat}
theorem CoOk.on (h : CoOk c n L B o st) {s' : Ar} {C : Int} (hC : B ≤ C) (hw : WdB C s') (ns : NearA st.s s') : CoOk c n L C (o + 1) (onA st s') :=
  ⟨⟨hw, (h.bd.mono hC).g, (h.bd.mono hC).l, (h.bd.mono hC).t⟩, h.v.ars s', by show s'.W.length = L; rw [ns.2, h.len], by show s'.ops ≤ o + 1; have := ns.1; have := h.ops; omega⟩
theorem CoOk.up (h : CoOk c n L B o st) {C : Int} (hC : B ≤ C) {p : Nat} (hp : o ≤ p) : CoOk c n L C p st := ⟨h.bd.mono hC, h.v, h.len, by have := h.ops; omega⟩
theorem nearDr (s : Ar) (d : Dr) : NearA s (drStep s d).1 := by
  unfold drStep
  split
  · split
    · exact nearLoad _ _
    · exact nearLoad _ _
  · exact ⟨Nat.le_succ _, rfl⟩
theorem nuAsk_ok (h : CoOk c n L B o x.st) (k : CoW0 c n N L) (hB : 40 ≤ B) {i : Nat} (hi : i < n) (r : Bool) : CoOk c n L (B + 4) o (nuAsk c x i r).st ∧ (nuAsk c x i r).st.s = x.st.s := by
  unfold nuAsk
  split
  · split
    · exact ⟨h.up (by omega) (Nat.le_refl _), rfl⟩
    · have q := h.ask k (by omega) hi
      exact ⟨⟨q.bd.mono (by omega), q.v, q.len, by show (coAsk c x.st i).s.ops ≤ o; rw [coAsk_s]; exact h.ops⟩, coAsk_s _ _ _⟩
  · exact ⟨h.up (by omega) (Nat.le_refl _), rfl⟩
theorem nuLeave_st (x : Nu) (i : Nat) : (nuLeave x i).st = x.st := by unfold nuLeave; split <;> rfl
/-- what does not turn -/
structure NuK (c : CoC) (n N L : Nat) (ml : Nat → Nat) : Prop where
  w : CoW0 c n N L
  y : CoLy c n N ml
  tg : c.tg = 2 * (N : Int) + 2
  len : 2 * (N : Int) + 1 ≤ (L : Int)
  N1 : 1 ≤ N
end
section
variable {kg kl par : Nat} {bud : Int} {P T : List Int} {s : Ar}
theorem smA_z (hs : s.W = []) (N : Nat) : WdB 0 (smA s N) ∧ (smA s N).W.length = 2 * N + 1 := by
  have e : (smA s N).W = (s.W ++ List.replicate (2 * N) 0) ++ List.replicate 1 0 := rfl
  rw [hs, List.nil_append] at e
  refine ⟨fun v hv => ?_, by rw [e]; simp⟩
  rw [e] at hv
  rcases List.mem_append.1 hv with h1 | h1
  · rw [(List.mem_replicate.1 h1).2]; omega
  · rw [(List.mem_replicate.1 h1).2]; omega
theorem nu_k (hc : chkT P T = 0) (hkg : 1 ≤ kg ∧ kg ≤ 5) (hkl : 1 ≤ kl ∧ kl ≤ 5) (hp : 1 ≤ par ∧ par ≤ 4) (hs : s.W = []) (hN : 1 ≤ (leavesL P).length) :
    NuK (coCN kg kl par bud P T (smA s (leavesL P).length)) T.length (leavesL P).length (coStN kg kl par P T (smA s (leavesL P).length)).s.W.length (mtQ P T) := by
  have hw := new_w0 (bud := bud) (s := smA s (leavesL P).length) hc hkg hkl hp
  have hl := (smA_z hs (leavesL P).length).2
  have ht : (coCN kg kl par bud P T (smA s (leavesL P).length)).tg = 2 * ((leavesL P).length : Int) + 2 := by
    show (((smA s (leavesL P).length).W.length + 1 : Nat) : Int) = _
    rw [hl]; omega
  refine ⟨hw, ly_new (bud := bud) hc hkg hkl hp, ht, ?_, hN⟩
  have := hw.tg
  rw [ht] at this
  omega
end
end Go.Proofs.YtmlcfmickonfbaaGreat
end
section
set_option linter.unusedVariables false
set_option linter.unusedSimpArgs false
/- Layer 37 (readers), plain: the machine; a writer holds alone. No program in sight. (printed by gen_rs1.py out of XNs1) -/
namespace Go.Proofs.YtmlcfmickonfbaaGreat
open Go

/-- a step: the cohort lock, the drain, where the thread comes -/
def rsDoes (c : CoC) (N : Nat) (x : Nu) (i : Nat) (p : Sp) : Co × Dr × Int :=
  if p.a = 1 then
    if p.pc = 1 then (onA x.st (addA x.st.s (gaA (c.node i)) 1), x.d, 2)
    else if p.pc = 2 then (onA x.st (loadA x.st.s (nuFl N)), x.d, if ldW x.st.s.W (nuFl N) = 0 then 10 else 2)
    else (onA x.st (addA x.st.s (gaW (c.node i)) 1), x.d, 0)
  else if p.pc = 7 then (coStep c x.st i, x.d, if cameK (sv x.st.T i) (sv (coStep c x.st i).T i) then 8 else 7)
  else if p.pc = 12 then (coLeave (onA x.st (storeA x.st.s (nuFl N) 0)) i, x.d, 13)
  else if p.pc = 13 then (coStep c x.st i, x.d, if cameK (sv x.st.T i) (sv (coStep c x.st i).T i) then 0 else 13)
  else if p.pc = 5 then (onA x.st (storeA x.st.s (nuFl N) 0), drBeg x.d N false, 6)
  else if p.pc = 8 then (onA x.st (storeA x.st.s (nuFl N) 1), drBeg x.d N true, 9)
  else (onA x.st (drStep x.st.s x.d).1, (drStep x.st.s x.d).2.1, if (drStep x.st.s x.d).2.2 = false then p.pc else if p.pc = 6 then 8 else if (drStep x.st.s x.d).2.1.clear = true then 10 else 5)
def rsStep (c : CoC) (N : Nat) (x : Nu) (i : Nat) : Nu :=
  if (sv x.U i).pc = 0 ∨ (sv x.U i).pc = 10 then x
  else ⟨(rsDoes c N x i (sv x.U i)).1, (rsDoes c N x i (sv x.U i)).2.1, x.U.set i { (sv x.U i) with pc := (rsDoes c N x i (sv x.U i)).2.2 }⟩
def rdInR (p : Sp) : Bool := decide (p.a = 1 ∧ (p.pc = 2 ∨ p.pc = 10 ∨ p.pc = 11))
def rdStR (p : Sp) : Prop := p.a = 1 ∧ (p.pc = 10 ∨ p.pc = 11)
def wrPR (p : Sp) : Prop := p.a = 0 ∧ (p.pc = 5 ∨ p.pc = 9 ∨ p.pc = 10 ∨ p.pc = 12)
def linkR (p t : Sp) : Prop :=
  (p.pc = 0 ∧ t.pc = 0) ∨ (p.a = 1 ∧ (p.pc = 1 ∨ p.pc = 2 ∨ p.pc = 10 ∨ p.pc = 11) ∧ t.pc = 0) ∨
    (p.a = 0 ∧ p.pc = 7 ∧ 0 < t.pc ∧ t.pc < 10) ∨ (p.a = 0 ∧ (p.pc = 5 ∨ p.pc = 6 ∨ p.pc = 8 ∨ p.pc = 9 ∨ p.pc = 10 ∨ p.pc = 12) ∧ t.pc = 10) ∨ (p.a = 0 ∧ p.pc = 13 ∧ 10 < t.pc)
def cntIR (c : CoC) (n : Nat) (U : List Sp) (a : Nat) : Nat := cntN n (fun j => decide (c.node j = a) && rdInR (sv U j))
def DrIR (c : CoC) (n N : Nat) (d : Dr) (W : List Int) (U : List Sp) : Prop :=
  (d.busy = true ∧ d.once = true ∧ d.at_ < N ∧ d.lim = N) ∧ (d.second = true → d.out ≤ ldW W (gaW d.at_)) ∧ ∀ j, j < n → rdStR (sv U j) → d.at_ ≤ c.node j
structure RsI (c : CoC) (n N : Nat) (ml : Nat → Nat) (x : Nu) : Prop where
  m : CoM c n N ml x.st
  lU : x.U.length = n
  k : ∀ i, i < n → linkR (sv x.U i) (sv x.st.T i)
  g : ∀ a, a < N → ldW x.st.s.W (gaA a) = ldW x.st.s.W (gaW a) + (cntIR c n x.U a : Int)
  fl : ∀ i, i < n → wrPR (sv x.U i) → ldW x.st.s.W (nuFl N) ≠ 0
  dr : ∀ i, i < n → (sv x.U i).a = 0 → (sv x.U i).pc = 9 → DrIR c n N x.d x.st.s.W x.U
  hd : ∀ i, i < n → (sv x.U i).a = 0 → (sv x.U i).pc = 10 → ∀ j, j < n → ¬ rdStR (sv x.U j)
section
variable {c : CoC} {n N : Nat} {ml : Nat → Nat} {x x' : Nu}
/-- a writer holds alone -/
theorem RsI.safe (h : RsI c n N ml x) (y : CoLy c n N ml) {i : Nat} (hi : i < n) (h1 : (sv x.U i).pc = 10) (h0 : (sv x.U i).a = 0) {j : Nat} (hj : j < n) (h2 : (sv x.U j).pc = 10) : j = i ∧ (sv x.U j).a = 0 := by
  have ki := h.k i hi
  have kj := h.k j hj
  by_cases ha : (sv x.U j).a = 1
  · exact absurd ⟨ha, .inl h2⟩ (h.hd i hi h0 h1 j hj)
  · have t1 : (sv x.st.T i).pc = 10 := by unfold linkR at ki; omega
    have t2 : (sv x.st.T j).pc = 10 ∧ (sv x.U j).a = 0 := by unfold linkR at kj; omega
    exact ⟨h.m.one y hj hi (by omega) (by omega), t2.2⟩
theorem RsI.one (h : RsI c n N ml x) (y : CoLy c n N ml) {i j : Nat} (hi : i < n) (hj : j < n) (h1 : (sv x.st.T i).pc = 10) (h2 : (sv x.st.T j).pc = 10) : i = j := h.m.one y hi hj (by omega) (by omega)
theorem wr_tR {p t : Sp} (h : linkR p t) (hw : wrPR p) : t.pc = 10 := by unfold linkR at h; unfold wrPR at hw; omega
theorem cntIR_set {U : List Sp} {i : Nat} (hl : i < U.length) (hi : i < n) (p : Sp) (a : Nat) :
    cntIR c n (U.set i p) a + (if c.node i = a ∧ rdInR (sv U i) = true then 1 else 0) = cntIR c n U a + (if c.node i = a ∧ rdInR p = true then 1 else 0) := by
  unfold cntIR
  have := cntN_one (P := fun j => decide (c.node j = a) && rdInR (sv U j)) (Q := fun j => decide (c.node j = a) && rdInR (sv (U.set i p) j)) (i := i) (fun j hj => by rw [svS hl, if_neg hj]) n hi
  simp only [Bool.and_eq_true, decide_eq_true_eq] at this
  rw [svS hl, if_pos rfl] at this
  exact this
/-- an act of a thread: what is to be shown of it -/
theorem RsI.upd (h : RsI c n N ml x) {i : Nat} (hi : i < n) {st' : Co} {d' : Dr} {p' : Sp} (hm : CoM c n N ml st') (hT : ∀ j, j ≠ i → sv st'.T j = sv x.st.T j) (hk : linkR p' (sv st'.T i))
    (hg : ∀ a, a < N → ldW st'.s.W (gaA a) = ldW st'.s.W (gaW a) + (cntIR c n (x.U.set i p') a : Int))
    (hfl : ∀ j, j < n → j ≠ i → wrPR (sv x.U j) → ldW st'.s.W (nuFl N) ≠ 0) (hfi : wrPR p' → ldW st'.s.W (nuFl N) ≠ 0)
    (hH : ∀ a, a < N → ldW x.st.s.W (gaW a) ≤ ldW st'.s.W (gaW a))
    (hset : rdStR p' → rdStR (sv x.U i) ∨ ∀ j, j < n → j ≠ i → ¬ wrPR (sv x.U j))
    (hd : ∀ j, j < n → j ≠ i → (sv x.U j).a = 0 → (sv x.U j).pc = 9 → d' = x.d)
    (od : p'.a = 0 → p'.pc = 9 → DrIR c n N d' st'.s.W (x.U.set i p')) (oh : p'.a = 0 → p'.pc = 10 → ∀ j, j < n → j ≠ i → ¬ rdStR (sv x.U j)) : RsI c n N ml ⟨st', d', x.U.set i p'⟩ := by
  have hl : i < x.U.length := by rw [h.lU]; exact hi
  have hs := svS hl p'
  refine ⟨hm, by rw [List.length_set]; exact h.lU, fun j hj => ?_, hg, fun j hj hw => ?_, fun j hj h0 h9 => ?_, fun j hj h0 h10 => ?_⟩
  · show linkR (sv (x.U.set i p') j) (sv st'.T j)
    rw [hs]
    split
    · rename_i e; rw [e]; exact hk
    · rename_i e; rw [hT j e]; exact h.k j hj
  · have hw' : wrPR (sv (x.U.set i p') j) := hw
    rw [hs] at hw'
    split at hw'
    · exact hfi hw'
    · rename_i e; exact hfl j hj e hw'
  · have h0' : (sv (x.U.set i p') j).a = 0 := h0
    have h9' : (sv (x.U.set i p') j).pc = 9 := h9
    rw [hs] at h0' h9'
    by_cases e : j = i
    · rw [if_pos e] at h0' h9'
      exact od h0' h9'
    · rw [if_neg e] at h0' h9'
      obtain ⟨q1, q2, q3⟩ := h.dr j hj h0' h9'
      show DrIR c n N d' st'.s.W (x.U.set i p')
      rw [hd j hj e h0' h9']
      refine ⟨q1, fun hq => Int.le_trans (q2 hq) (hH _ q1.2.2.1), fun k hk hr => ?_⟩
      rw [hs] at hr
      split at hr
      · rename_i e2
        rcases hset hr with h1 | h1
        · rw [e2]; exact q3 i hi h1
        · exact absurd ⟨h0', .inr (.inl h9')⟩ (h1 j hj e)
      · exact q3 k hk hr
  · have h0' : (sv (x.U.set i p') j).a = 0 := h0
    have h9' : (sv (x.U.set i p') j).pc = 10 := h10
    rw [hs] at h0' h9'
    intro k hk hr
    have hr' : rdStR (sv (x.U.set i p') k) := hr
    rw [hs] at hr'
    by_cases e : j = i
    · rw [if_pos e] at h0' h9'
      split at hr'
      · unfold rdStR at hr'; omega
      · rename_i e2; exact oh h0' h9' k hk e2 hr'
    · rw [if_neg e] at h0' h9'
      split at hr'
      · rcases hset hr' with h1 | h1
        · exact h.hd j hj h0' h9' i hi h1
        · exact h1 j hj e ⟨h0', .inr (.inr (.inl h9'))⟩
      · exact h.hd j hj h0' h9' k hk hr'
theorem low_stR (h : RsI c n N ml x) (y : CoLy c n N ml) (l : NuL c N x.st.s.W) {z : Int} (hz : 1 ≤ z ∧ z ≤ nuFl N) (v : Int) {s' : Ar} (e : s'.W = stW x.st.s.W z v) : (∀ q, ldW s'.W q = if q = z then v else ldW x.st.s.W q) ∧ CoM c n N ml (onA x.st s') := by
  have hw := ldW_st (W := x.st.s.W) (x := z) (inR_true.2 ⟨hz.1, by have := l.len; unfold nuFl at hz; omega⟩) v
  have h1 : ∀ q, ldW s'.W q = if q = z then v else ldW x.st.s.W q := fun q => by rw [e, hw]
  refine ⟨h1, h.m.low y (by rw [e, stW_len]) (fun q hq => ?_) (h.m.v.ars s')⟩
  rw [h1, if_neg (by have := l.tg; unfold nuFl at hz; omega)]
theorem low_idR (h : RsI c n N ml x) (y : CoLy c n N ml) {s' : Ar} (e : s'.W = x.st.s.W) : CoM c n N ml (onA x.st s') :=
  h.m.low y (by rw [e]) (fun q _ => by rw [e]) (h.m.v.ars s')
theorem cnt_eqR (h : RsI c n N ml x) {i : Nat} (hi : i < n) {p' : Sp} (hb : rdInR p' = rdInR (sv x.U i)) (a : Nat) : cntIR c n (x.U.set i p') a = cntIR c n x.U a := by
  have := cntIR_set (c := c) (n := n) (show i < x.U.length by rw [h.lU]; exact hi) hi p' a
  rw [hb] at this; omega
/-- where no low word turns and the thread is in as it was -/
theorem g_sameR (h : RsI c n N ml x) {i : Nat} (hi : i < n) {p' : Sp} (hb : rdInR p' = rdInR (sv x.U i)) {W' : List Int} (hw : ∀ q, q < nuFl N → ldW W' q = ldW x.st.s.W q) : ∀ a, a < N → ldW W' (gaA a) = ldW W' (gaW a) + (cntIR c n (x.U.set i p') a : Int) := fun a ha => by
  rw [hw _ (gaA_lt ha).2, hw _ (gaW_lt ha).2, cnt_eqR h hi hb a]; exact h.g a ha
theorem g_inR (h : RsI c n N ml x) (hn : ∀ j, j < n → c.node j < N) {i : Nat} (hi : i < n) {p' : Sp} (h0 : rdInR (sv x.U i) = false) (h1 : rdInR p' = true) {W' : List Int} (hw : ∀ q, ldW W' q = if q = gaA (c.node i) then ldW x.st.s.W (gaA (c.node i)) + 1 else ldW x.st.s.W q) : ∀ a, a < N → ldW W' (gaA a) = ldW W' (gaW a) + (cntIR c n (x.U.set i p') a : Int) := fun a ha => by
  have h2 := cntIR_set (c := c) (n := n) (show i < x.U.length by rw [h.lU]; exact hi) hi p' a
  rw [h0, h1] at h2
  have hg := h.g a ha
  have := hn i hi
  rw [hw, hw, if_neg (show ¬ gaW a = gaA (c.node i) by unfold gaA gaW; omega)]
  by_cases e : c.node i = a
  · rw [if_pos (by rw [e]), e]
    simp [e] at h2
    omega
  · rw [if_neg (by unfold gaA; omega)]
    simp [e] at h2
    omega
theorem g_outR (h : RsI c n N ml x) (hn : ∀ j, j < n → c.node j < N) {i : Nat} (hi : i < n) {p' : Sp} (h0 : rdInR (sv x.U i) = true) (h1 : rdInR p' = false) {W' : List Int} (hw : ∀ q, ldW W' q = if q = gaW (c.node i) then ldW x.st.s.W (gaW (c.node i)) + 1 else ldW x.st.s.W q) : ∀ a, a < N → ldW W' (gaA a) = ldW W' (gaW a) + (cntIR c n (x.U.set i p') a : Int) := fun a ha => by
  have h2 := cntIR_set (c := c) (n := n) (show i < x.U.length by rw [h.lU]; exact hi) hi p' a
  rw [h0, h1] at h2
  have hg := h.g a ha
  have := hn i hi
  rw [hw, hw, if_neg (show ¬ gaA a = gaW (c.node i) by unfold gaA gaW; omega)]
  by_cases e : c.node i = a
  · rw [if_pos (by rw [e]), e]
    simp [e] at h2
    omega
  · rw [if_neg (by unfold gaW; omega)]
    simp [e] at h2
    omega
end
end Go.Proofs.YtmlcfmickonfbaaGreat
end
