/- Joined: Hc4, Hl1, Hl2, Hl3, Hl4. -/
import Derived.IntWalk
import Derived.Test.YtkdaiomjbkpedaaGreatMgHmcsTenure3
import Derived.Test.YtkdaiomjbkpedaaGreatMgHmcsTenure6
section
/- Layer 29 (hclh): what any act does; one holder; who is passed; and how long it all lasts. No program in sight. -/
namespace Go.Proofs.YtkdaiomjbkpedaaGreat
open Go

structure HOk (nd n : Nat) (dl : Int) (node : Nat → Nat) (h : Hc) (N : Nat) (G : Nat → List Nat) : Prop where
  iv : HIv nd n node h.ar.W h.D h.S G
  ops : h.ar.ops ≤ N
  dn : ∀ t, dv h.D t ≤ N
  bb : ∀ t, t < n → (sv h.S t).pc = 2 → (sv h.S t).b ≤ dl
/-- what a step of i does -/
structure StH (n : Nat) (node : Nat → Nat) (p p' : Sp) (i : Nat) (Q Q' : List Nat) : Prop where
  row : p.pc = 1 → p'.pc = 5 → ∃ (t : Nat) (d : Int), t < n ∧ node t = node i ∧ 0 ≤ d ∧ p'.a = tokH t d
  stay : p.pc ≠ 4 → p.pc ≠ 11 → Q' = Q
  splice : p.pc = 4 → (∃ r, Q' = Q ++ i :: r) ∧ (p'.pc = 10 → Q = [])
  gone : p.pc = 11 → Q.head? = some i ∧ Q' = Q.tail
  enter : p'.pc = 10 → p.pc ≠ 10 → p.pc = 4 ∨ (p.pc = 5 ∧ Q.head? = some i)
  look : p.pc = 5 → Q.head? = some i → p'.pc = 10
  only : p.pc = 1 ∨ p.pc = 2 ∨ p.pc = 3 ∨ p.pc = 4 ∨ p.pc = 5 ∨ p.pc = 11
  less : p.pc ≠ 5 → p'.pc = p.pc → p'.pc = 2 ∧ p'.b = p.b - 1 ∧ 1 ≤ p'.b
  next : p'.pc = p.pc ∨ (p.pc = 1 ∧ (p'.pc = 2 ∨ p'.pc = 3 ∨ p'.pc = 5)) ∨ (p.pc = 2 ∧ p'.pc = 3) ∨ (p.pc = 3 ∧ p'.pc = 4) ∨ (p.pc = 4 ∧ (p'.pc = 5 ∨ p'.pc = 10)) ∨ (p.pc = 5 ∧ p'.pc = 10) ∨ (p.pc = 11 ∧ p'.pc = 0)
section
variable {nd n N i : Nat} {dl : Int} {node : Nat → Nat} {h : Hc} {G : Nat → List Nat}
theorem goes_iff {p : Sp} : goesH p = true ↔ (p.pc = 1 ∨ p.pc = 2 ∨ p.pc = 3 ∨ p.pc = 4 ∨ p.pc = 5 ∨ p.pc = 11) := by
  unfold goesH
  simp [or_assoc]
theorem HOk.pcs (k : HOk nd n dl node h N G) (hi : i < n) : (sv h.S i).pc = 0 ∨ (sv h.S i).pc = 1 ∨ (sv h.S i).pc = 2 ∨ (sv h.S i).pc = 3 ∨ (sv h.S i).pc = 4 ∨ (sv h.S i).pc = 5 ∨ (sv h.S i).pc = 10 ∨ (sv h.S i).pc = 11 := by
  rcases Classical.em (∀ k, i ∉ G k) with hk | hk
  · have := k.iv.free i hi hk; omega
  · obtain ⟨j, hk⟩ := Classical.not_forall.1 hk
    rcases k.iv.inG (Classical.not_not.1 hk) with h1 | ⟨h0, ⟨_, h1⟩ | ⟨_, h1⟩⟩ <;> omega
theorem isA_W (s : Ar) (f : Int) (n : Nat) (w : Int) : (isA s f n w).W = s.W := by unfold isA; split <;> simp [loadA_W]
theorem isA_ops (s : Ar) (f : Int) (n : Nat) (w : Int) : (isA s f n w).ops ≤ s.ops + 1 := by unfold isA; split <;> simp [loadA_ops]
theorem HOk.bset (k : HOk nd n dl node h N G) (hi : i < n) {p' : Sp} (hb : p'.pc = 2 → p'.b ≤ dl) : ∀ t, t < n → (sv (h.S.set i p') t).pc = 2 → (sv (h.S.set i p') t).b ≤ dl := fun t ht h2 => by
  by_cases e : t = i
  · subst e
    rw [sv_eq (by rw [k.iv.sl]; exact hi)] at h2 ⊢
    exact hb h2
  · rw [sv_ne e] at h2 ⊢; exact k.bb t ht h2
theorem HOk.step (k : HOk nd n dl node h N G) (hN : N < 1000000) (hi : i < n) (hg : goesH (sv h.S i) = true) (x : Ar × List Int × Sp) (hx : x = stepHp nd n dl h (node i) i (sv h.S i)) :
    ∃ G', HOk nd n dl node ⟨x.1, x.2.1, h.S.set i x.2.2⟩ (N + 1) G' ∧ StH n node (sv h.S i) x.2.2 i (G 0) (G' 0) := by
  have hv := k.iv.nn i hi
  have hl1 := ld_lc (W := h.ar.W) (n := n) k.iv.wl hv
  have hs1 := fun y => st_lc (W := h.ar.W) (n := n) k.iv.wl hv y
  have hdn : ∀ t, dv h.D t ≤ (N + 1 : Nat) := fun t => by have := k.dn t; omega
  have hops : ∀ {s : Ar}, s.ops ≤ h.ar.ops + 1 → s.ops ≤ N + 1 := fun hs => by have := k.ops; omega
  rcases goes_iff.1 hg with e | e | e | e | e | e
  · have hx' : x = (swapA h.ar (2 + (node i : Int)) (tokH i (dv h.D i + 1)), h.D,
      if lc h.ar.W (node i) ≠ 0 then { sv h.S i with a := lc h.ar.W (node i), pc := 5 } else if 0 < dl then { sv h.S i with a := lc h.ar.W (node i), b := dl, pc := 2 } else { sv h.S i with a := lc h.ar.W (node i), b := 0, pc := 3 }) := by
      rw [hx]; unfold stepHp; rw [if_pos e, hl1]
    by_cases c : lc h.ar.W (node i) = 0
    · have hx2 : x.2.2 = if 0 < dl then { sv h.S i with a := lc h.ar.W (node i), b := dl, pc := 2 } else { sv h.S i with a := lc h.ar.W (node i), b := 0, pc := 3 } := by rw [hx']; simp only [c, ne_eq, not_true, if_false]
      have hp : (x.2.2.pc = 2 ∧ 0 < x.2.2.b) ∨ x.2.2.pc = 3 := by
        rw [hx2]; split
        · rename_i hdl; exact .inl ⟨rfl, hdl⟩
        · exact .inr rfl
      have hb : x.2.2.pc = 2 → x.2.2.b ≤ dl := by
        rw [hx2]; split
        · intro _; exact Int.le_refl _
        · intro h2; exact absurd h2 (by show ¬ (3 : Int) = 2; decide)
      refine ⟨upd G (i + 1) [i], ⟨?_, by rw [hx']; exact hops (swapA_ops _ _ _), by rw [hx']; exact hdn, k.bset hi hb⟩, ?_⟩
      · have := k.iv.s1a hi e c hp
        show HIv nd n node x.1.W x.2.1 _ _
        rw [show x.1.W = h.ar.W.set (1 + node i) (tokH i (dv h.D i + 1)) by rw [hx']; show (swapA _ _ _).W = _; rw [swapA_W, hs1], show x.2.1 = h.D by rw [hx']]
        exact this
      · have h5 : ¬ x.2.2.pc = 5 := by omega
        refine ⟨fun _ h => absurd h h5, fun _ _ => upd_ne _ _ (by omega), fun h => by omega, fun h => by omega, fun h => by omega, fun h => by omega, .inl e, fun _ h => by omega, by omega⟩
    · have hx2 : x.2.2 = { sv h.S i with a := lc h.ar.W (node i), pc := 5 } := by rw [hx']; simp only [c, ne_eq, not_false_iff, if_true]
      obtain ⟨m, t, hm, ht, hnt, hpa, hiv⟩ := k.iv.s1b (p' := x.2.2) hi e c (by rw [hx2]) (by rw [hx2])
      have h5 : x.2.2.pc = 5 := by rw [hx2]
      refine ⟨upd G (m + 1) (G (m + 1) ++ [i]), ⟨?_, by rw [hx']; exact hops (swapA_ops _ _ _), by rw [hx']; exact hdn, k.bset hi (by omega)⟩, ?_⟩
      · show HIv nd n node x.1.W x.2.1 _ _
        rw [show x.1.W = h.ar.W.set (1 + node i) (tokH i (dv h.D i + 1)) by rw [hx']; show (swapA _ _ _).W = _; rw [swapA_W, hs1], show x.2.1 = h.D by rw [hx']]
        exact hiv
      · exact ⟨fun _ _ => ⟨t, _, k.iv.lt _ t ht, hnt, by have := k.iv.d0 t; omega, hpa⟩, fun _ _ => upd_ne _ _ (by omega), fun h => by omega, fun h => by omega, fun h => by omega, fun h => by omega, .inl e, fun _ h => by omega, by omega⟩
  · have hx' : x = (h.ar, h.D, { sv h.S i with b := (sv h.S i).b - 1, pc := if 0 < (sv h.S i).b - 1 then 2 else 3 }) := by
      rw [hx]; unfold stepHp; rw [if_neg (by omega), if_pos e]
    have hp : (x.2.2.pc = 2 ∧ 0 < x.2.2.b) ∨ x.2.2.pc = 3 := by
      rw [hx']; show ((if _ then (2 : Int) else 3) = 2 ∧ _) ∨ (if _ then (2 : Int) else 3) = 3
      split
      · rename_i hb; exact .inl ⟨rfl, hb⟩
      · exact .inr rfl
    have hb : x.2.2.b = (sv h.S i).b - 1 := by rw [hx']
    have := k.bb i hi e
    refine ⟨G, ⟨?_, by rw [hx']; exact hops (Nat.le_succ _), by rw [hx']; exact hdn, k.bset hi (by omega)⟩, ⟨fun h => by omega, fun _ _ => rfl, fun h => by omega, fun h => by omega, fun h => by omega, fun h => by omega, .inr (.inl e), fun _ h => by omega, by omega⟩⟩
    show HIv nd n node x.1.W x.2.1 _ _
    rw [show x.1.W = h.ar.W by rw [hx'], show x.2.1 = h.D by rw [hx']]
    exact k.iv.s2 hi e hp
  · have hx' : x = (swapA h.ar (2 + (node i : Int)) 0, h.D, { sv h.S i with c := lc h.ar.W (node i), pc := 4 }) := by
      rw [hx]; unfold stepHp; rw [if_neg (by omega), if_neg (by omega), if_pos e, hl1]
    have hp : x.2.2.pc = 4 := by rw [hx']
    refine ⟨G, ⟨?_, by rw [hx']; exact hops (swapA_ops _ _ _), by rw [hx']; exact hdn, k.bset hi (by omega)⟩, ⟨fun h => by omega, fun _ _ => rfl, fun h => by omega, fun h => by omega, fun h => by omega, fun h => by omega, .inr (.inr (.inl e)), fun _ h => by omega, by omega⟩⟩
    show HIv nd n node x.1.W x.2.1 _ _
    rw [show x.1.W = h.ar.W.set (1 + node i) 0 by rw [hx']; show (swapA _ _ _).W = _; rw [swapA_W, hs1], show x.2.1 = h.D by rw [hx']]
    exact k.iv.s3 hi e hp (by rw [hx'])
  · have hx' : x = (swapA h.ar 1 (sv h.S i).c, h.D, { sv h.S i with a := tl h.ar.W, pc := if tl h.ar.W = 0 then 10 else 5 }) := by
      rw [hx]; unfold stepHp; rw [if_neg (by omega), if_neg (by omega), if_neg (by omega), if_pos e, ld_tl1 k.iv.wl]
    have hp : (tl h.ar.W = 0 ∧ x.2.2.pc = 10) ∨ (tl h.ar.W ≠ 0 ∧ x.2.2.pc = 5) := by
      rw [hx']
      by_cases c : tl h.ar.W = 0
      · exact .inl ⟨c, by show (if _ then (10 : Int) else 5) = 10; rw [if_pos c]⟩
      · exact .inr ⟨c, by show (if _ then (10 : Int) else 5) = 5; rw [if_neg c]⟩
    obtain ⟨⟨r, hr⟩, he, hiv⟩ := k.iv.s4 (p' := x.2.2) hi e hp (by rw [hx'])
    refine ⟨spl G i, ⟨?_, by rw [hx']; exact hops (swapA_ops _ _ _), by rw [hx']; exact hdn, k.bset hi (by omega)⟩, ⟨fun h => by omega, fun h => by omega, fun _ => ⟨⟨r, by rw [spl0, hr]⟩, he⟩, fun h => by omega, fun _ _ => .inl e, fun h => by omega, .inr (.inr (.inr (.inl e))), fun _ h => by omega, by omega⟩⟩
    show HIv nd n node x.1.W x.2.1 _ _
    rw [show x.1.W = h.ar.W.set 0 (sv h.S i).c by rw [hx']; show (swapA _ _ _).W = _; rw [swapA_W, st_tl1 k.iv.wl], show x.2.1 = h.D by rw [hx']]
    exact hiv
  · have hx' : x = (isA h.ar (2 + (nd : Int)) n (sv h.S i).a, h.D, { sv h.S i with pc := if isB h.ar.W (2 + (nd : Int)) n (sv h.S i).a then 10 else 5 }) := by
      rw [hx]; unfold stepHp; rw [if_neg (by omega), if_neg (by omega), if_neg (by omega), if_neg (by omega), if_pos e]
    have hW : x.1.W = h.ar.W := by rw [hx']; exact isA_W _ _ _ _
    have hD : x.2.1 = h.D := by rw [hx']
    cases c : isB h.ar.W (2 + (nd : Int)) n (sv h.S i).a
    · have hx2 : x.2.2 = sv h.S i := by
        rw [hx', c]
        exact sp_ext e.symm rfl rfl rfl
      have hnh : ¬ (G 0).head? = some i := fun hf => by rw [k.iv.s5n hf e] at c; cases c
      refine ⟨G, ⟨?_, by rw [hx']; exact hops (isA_ops _ _ _ _), by rw [hD]; exact hdn, k.bset hi (by rw [hx2]; omega)⟩, ⟨fun h => by omega, fun _ _ => rfl, fun h => by omega, fun h => by omega, fun h => by rw [hx2] at h; omega, fun _ hf => absurd hf hnh, .inr (.inr (.inr (.inr (.inl e)))), fun h => absurd e h, by rw [hx2]; exact .inl rfl⟩⟩
      show HIv nd n node x.1.W x.2.1 _ _
      rw [hW, hD]
      exact k.iv.same5 hi hx2
    · have hp : x.2.2.pc = 10 := by rw [hx', c]; rfl
      have hf := k.iv.s5 hi e c
      refine ⟨G, ⟨?_, by rw [hx']; exact hops (isA_ops _ _ _ _), by rw [hD]; exact hdn, k.bset hi (by omega)⟩, ⟨fun h => by omega, fun _ _ => rfl, fun h => by omega, fun h => by omega, fun _ _ => .inr ⟨e, hf⟩, fun _ _ => hp, .inr (.inr (.inr (.inr (.inl e)))), fun h => absurd e h, by omega⟩⟩
      show HIv nd n node x.1.W x.2.1 _ _
      rw [hW, hD]
      exact k.iv.atFrontP hi hf (.inl hp)
  · have hx' : x = (addA h.ar (2 + (nd : Int) + i) 1, h.D.set i (dv h.D i + 1), { sv h.S i with pc := 0 }) := by
      rw [hx]; unfold stepHp; rw [if_neg (by omega), if_neg (by omega), if_neg (by omega), if_neg (by omega), if_neg (by omega)]
    have hp : x.2.2.pc = 0 := by rw [hx']
    have hf := k.iv.atFront hi (.inr e)
    have hdl : i < h.D.length := by have := k.iv.dl; omega
    have hw : IntKind.i64.wrap (ldW h.ar.W (2 + (nd : Int) + i) + 1) = dv h.D i + 1 := by
      rw [ld_tw k.iv.wl hi, k.iv.tw i hi]
      have := k.iv.d0 i; have := k.dn i
      exact IntWalk.i64_in _ (by omega)
    refine ⟨upd G 0 (G 0).tail, ⟨?_, by rw [hx']; exact hops (addA_ops _ _ _), ?_, k.bset hi (by omega)⟩, ⟨fun h => by omega, fun _ h => by omega, fun h => by omega, fun _ => ⟨hf, upd_eq _ _ _⟩, fun h => by omega, fun h => by omega, .inr (.inr (.inr (.inr (.inr e)))), fun _ h => by omega, by omega⟩⟩
    · show HIv nd n node x.1.W x.2.1 _ _
      rw [show x.1.W = h.ar.W.set (1 + nd + i) (dv h.D i + 1) by rw [hx']; show (addA _ _ _).W = _; rw [addA_W, hw, st_tw k.iv.wl hi], show x.2.1 = h.D.set i (dv h.D i + 1) by rw [hx']]
      exact k.iv.s11 hi hf hp _ rfl
    · rw [hx']
      intro t
      show dv (h.D.set i (dv h.D i + 1)) t ≤ _
      rw [dv_set hdl]
      have := k.dn i
      split
      · omega
      · exact hdn t
end
end Go.Proofs.YtkdaiomjbkpedaaGreat
end
section
/- Layer 29 (hclh): how the lock lies in memory; Threads, Spot, Ask, Leave. -/
namespace Go.Proofs.YtkdaiomjbkpedaaGreat
open Go.RowKit

def nodeN (P T : List Int) (i : Nat) : Nat := (idxI (leavesL P) (T.getD i 0)).toNat
structure HcIs (w : World) (l a g q b u lo hi : Nat) (dl : Int) (P T : List Int) (h : Hc) : Prop where
  ar : ArIs w a g h.ar
  lk : Blk w l 73 #[.pointer (some ⟨a, 0, none⟩), .pointer (some ⟨b, 0, none⟩), .int .i64 1, .pointer (some ⟨u, 0, none⟩), .int .i64 dl, .slice (some ⟨q, 0, none⟩) T.length T.length]
  sp : SpIs w q h.S
  tu : TuIs w u a (2 + (leavesL P).length) T.length h.D
  tab : TabL lo hi w b P T
  sl : h.S.length = T.length
  hs : hi ≤ w.heap.size
  nd : [l, a, g, q, u].Nodup
  out : ∀ x ∈ [l, a, g, q, u], x < lo ∨ hi ≤ x
section
variable {w w' : World} {l a g q b u lo hi : Nat} {dl : Int} {P T : List Int} {h : Hc}
theorem HcIs.n32 (k : HcIs w l a g q b u lo hi dl P T h) : 1 ≤ T.length ∧ T.length ≤ 32 ∧ (leavesL P).length ≤ 32 := by
  have := many_lt (chk_ok k.tab.ok).1
  have hll := leavesTo_len P P.length
  exact ⟨this.2.2.1, this.2.2.2, by show (leavesTo P P.length).length ≤ 32; omega⟩
theorem HcIs.next (k : HcIs w l a g q b u lo hi dl P T h) {ar' : Ar} {D' : List Int} {S' : List Sp} (t : Turns [a, g, q, u] w w') (h1 : ArIs w' a g ar') (h2 : SpIs w' q S') (h3 : TuIs w' u a (2 + (leavesL P).length) T.length D') (h4 : S'.length = T.length) : HcIs w' l a g q b u lo hi dl P T ⟨ar', D', S'⟩ := by
  have hnd := k.nd
  refine ⟨h1, t.blk k.lk ?_, h2, h3, k.tab.keep (fun i hi1 hi2 => t.block i (by have := k.hs; omega) fun hm => ?_) (Nat.le_trans k.hs t.size), h4, Nat.le_trans k.hs t.size, k.nd, k.out⟩
  · exact (List.nodup_cons.1 hnd).1
  · have := k.out i (List.mem_cons_of_mem _ hm); omega
theorem HcIs.below (k : HcIs w l a g q b u lo hi dl P T h) (t : Below w.heap.size w w') : HcIs w' l a g q b u lo hi dl P T h := by
  have t0 := Turns.of_below (S := []) t
  exact k.next (t0.mono (by simp)) (k.ar.turns t0 (by simp) (by simp)) (k.sp.turns t0 (by simp)) (k.tu.turns t0 (by simp)) k.sl
/-- the spots alone turn -/
theorem HcIs.spot (k : HcIs w l a g q b u lo hi dl P T h) {S' : List Sp} (hs : SpIs w' q S') (hl : S'.length = T.length) (t : Turns [q] w w') : HcIs w' l a g q b u lo hi dl P T ⟨h.ar, h.D, S'⟩ := by
  have hnd := k.nd
  simp at hnd
  exact k.next (t.mono (by simp)) (k.ar.turns t (by simp; omega) (by simp; omega)) hs (k.tu.turns t (by simp; omega)) hl
theorem HcIs.c0 (k : HcIs w l a g q b u lo hi dl P T h) : w.cell? ⟨l, 0, none⟩ = some (.pointer (some ⟨a, 0, none⟩)) := k.lk.cell 0
theorem HcIs.c1 (k : HcIs w l a g q b u lo hi dl P T h) : w.cell? ⟨l, 1, none⟩ = some (.pointer (some ⟨b, 0, none⟩)) := k.lk.cell 1
theorem HcIs.c2 (k : HcIs w l a g q b u lo hi dl P T h) : w.cell? ⟨l, 2, none⟩ = some (.int .i64 1) := k.lk.cell 2
theorem HcIs.c3 (k : HcIs w l a g q b u lo hi dl P T h) : w.cell? ⟨l, 3, none⟩ = some (.pointer (some ⟨u, 0, none⟩)) := k.lk.cell 3
theorem HcIs.c4 (k : HcIs w l a g q b u lo hi dl P T h) : w.cell? ⟨l, 4, none⟩ = some (.int .i64 dl) := k.lk.cell 4
theorem HcIs.c5 (k : HcIs w l a g q b u lo hi dl P T h) : w.cell? ⟨l, 5, none⟩ = some (.slice (some ⟨q, 0, none⟩) T.length T.length) := k.lk.cell 5
theorem HcIs.spn (k : HcIs w l a g q b u lo hi dl P T h) {i : Nat} (hi : i < T.length) : h.S[i]? = some (sv h.S i) := by
  unfold sv
  rw [List.getD_eq_getElem?_getD, List.getElem?_eq_getElem (by rw [k.sl]; exact hi)]; rfl
theorem threadsH (k : HcIs w l a g q b u lo hi dl P T h) : Calls Tryz.prog 42 #[.pointer (some ⟨l, 0, none⟩)] w fun e w' => e = .returned (.int .i64 T.length) ∧ w = w' := by
  have c5 := k.c5
  clear k
  go_enter Tryz.func42, Tryz.ntmps42
  go_wp2
  go_ret
  exact ⟨rfl, rfl⟩
set_option maxHeartbeats 400000 in
theorem spotH (k : HcIs w l a g q b u lo hi dl P T h) (i : Int) :
    Calls Tryz.prog 14 #[.pointer (some ⟨l, 0, none⟩), .int .i64 i] w fun e w' => e = .returned (spotV (getS h.S i)) ∧ Below w.heap.size w w' := by
  obtain ⟨_, HN, _⟩ := k.n32
  have hsl := k.sl
  by_cases hok : okI h.S i
  · have hp := getS_in hok
    obtain ⟨p, hpp⟩ : ∃ p, p = getS h.S i := ⟨_, rfl⟩
    rw [← hpp] at hp ⊢
    have c2 := k.c5
    have a0 := k.sp.cell hp 0 _ rfl
    have a1 := k.sp.cell hp 1 _ rfl
    have a2 := k.sp.cell hp 2 _ rfl
    have a3 := k.sp.cell hp 3 _ rfl
    simp only [Nat.add_zero] at a0
    obtain ⟨h0, h1⟩ := hok
    rw [hsl] at h1
    obtain ⟨n, rfl⟩ := Int.eq_ofNat_of_zero_le h0
    simp only [Int.toNat_natCast] at a0 a1 a2 a3
    have hs1 := k.lk.lt
    have hs2 := k.sp.lt
    have t2 : ¬ (n : Int) < 0 := by omega
    have t3 : ¬ ((T.length : Nat) : Int) ≤ (n : Int) := by omega
    have t4 : n < T.length := by omega
    have H : Hid (HcIs (w.alloc (.cells #[.int .i64 0, .int .i64 0, .int .i64 0, .int .i64 0] 35)) l a g q b u lo hi dl P T h) := Lib.hid (k.below ((Below.refl _ _).alloc (Nat.le_refl _) _))
    clear k hp hpp h0 h1 hsl
    go_enter Tryz.func14, Tryz.ntmps14
    go_wp2_with (go_at_call 42; refine (threadsH H.out).mono ?_; rintro e w' ⟨rfl, rfl⟩)
    exact bodyPost_ret (results_cell_row (by rfl) _ _ w.heap.size 35 _ (0, 0) _ (by rfl) (heap_alloc_new w _) Tryz.underlying35 rfl (by kernel_rfl)) rfl ⟨rfl, (Below.refl _ _).alloc (Nat.le_refl _) _⟩
  · have H : Hid (HcIs (w.alloc (.cells #[.int .i64 0, .int .i64 0, .int .i64 0, .int .i64 0] 35)) l a g q b u lo hi dl P T h) := Lib.hid (k.below ((Below.refl _ _).alloc (Nat.le_refl _) _))
    rw [getS_out hok]
    unfold okI at hok
    rw [hsl] at hok
    clear k hsl
    by_cases h0 : i < 0
    · go_enter Tryz.func14, Tryz.ntmps14
      go_wp2
      exact bodyPost_ret (results_cell_row (by rfl) _ _ w.heap.size 35 _ (0, 0) _ (by rfl) (heap_alloc_new w _) Tryz.underlying35 rfl (by kernel_rfl)) rfl ⟨rfl, (Below.refl _ _).alloc (Nat.le_refl _) _⟩
    · have t3 : ((T.length : Nat) : Int) ≤ i := by omega
      clear hok
      go_enter Tryz.func14, Tryz.ntmps14
      go_wp2_with (go_at_call 42; refine (threadsH H.out).mono ?_; rintro e w' ⟨rfl, rfl⟩)
      exact bodyPost_ret (results_cell_row (by rfl) _ _ w.heap.size 35 _ (0, 0) _ (by rfl) (heap_alloc_new w _) Tryz.underlying35 rfl (by kernel_rfl)) rfl ⟨rfl, (Below.refl _ _).alloc (Nat.le_refl _) _⟩
def HOp (w : World) (l a g q b u lo hi : Nat) (dl : Int) (P T : List Int) (x : Hc × Bool) (e : Ending) (w' : World) : Prop := e = .returned (.bool x.2) ∧ HcIs w' l a g q b u lo hi dl P T x.1 ∧ Turns [a, g, q, u] w w'
set_option maxHeartbeats 800000 in
theorem beginHc (k : HcIs w l a g q b u lo hi dl P T h) (i from_ to_ : Int) :
    Calls Tryz.prog 75 #[.pointer (some ⟨l, 0, none⟩), .int .i64 i, .int .i64 from_, .int .i64 to_] w (HOp w l a g q b u lo hi dl P T (beginH h i from_ to_)) := by
  have H := Lib.hid k
  obtain ⟨_, hlen, _⟩ := k.n32
  have hsl := k.sl
  by_cases hi : okI h.S i
  · have hp := getS_in hi
    obtain ⟨p, hpp⟩ : ∃ p, p = getS h.S i := ⟨_, rfl⟩
    rw [← hpp] at hp
    have c2 := k.c5
    have a0 := k.sp.cell hp 0 _ rfl
    have f0 := k.sp.free (i.toNat * 4)
    simp only [Nat.add_zero] at a0
    obtain ⟨h0, h1⟩ := id hi
    rw [hsl] at h1
    obtain ⟨n, rfl⟩ := Int.eq_ofNat_of_zero_le h0
    simp only [Int.toNat_natCast] at a0 f0 hp
    have t2 : ¬ (n : Int) < 0 := by omega
    have t3 : ¬ ((T.length : Nat) : Int) ≤ (n : Int) := by omega
    have t4 : n < T.length := by omega
    have HP := Lib.hid (And.intro hi (And.intro hpp hp))
    clear k hp hpp h0 h1 hi hsl
    cases hc : (p.pc != from_)
    · have hb : Hid (beginH h n from_ to_ = (⟨h.ar, h.D, h.S.set n { p with pc := to_ }⟩, true)) := Lib.hid (by
        unfold beginH
        have e : p.pc = from_ := by simpa using hc
        rw [← HP.out.2.1, if_pos ⟨HP.out.1, e⟩]; simp)
      go_enter Tryz.func75, Tryz.ntmps75
      go_wp2_with (go_at_call 42; refine (threadsH H.out).mono ?_; rintro e w' ⟨rfl, rfl⟩)
      go_ret
      rw [hb.out]
      have ht : Turns [q] w (w.setCell ⟨q, n * 4, none⟩ (.int .i64 to_)) := (Turns.refl _ _).setCell (.inl (by simp)) _
      exact ⟨rfl, H.out.spot (H.out.sp.put HP.out.2.2 (j := 0) (by decide) rfl) (by simp [H.out.sl]) ht, ht.mono (by simp)⟩
    · have hb : Hid (beginH h n from_ to_ = (h, false)) := Lib.hid (by
        unfold beginH
        have e : ¬ p.pc = from_ := by simpa using hc
        rw [← HP.out.2.1, if_neg (fun h => e h.2)])
      go_enter Tryz.func75, Tryz.ntmps75
      go_wp2_with (go_at_call 42; refine (threadsH H.out).mono ?_; rintro e w' ⟨rfl, rfl⟩)
      go_ret
      rw [hb.out]
      exact ⟨rfl, H.out, Turns.refl _ _⟩
  · have hb : Hid (beginH h i from_ to_ = (h, false)) := Lib.hid (by
      unfold beginH
      rw [if_neg (fun h => hi h.1)])
    unfold okI at hi
    rw [hsl] at hi
    clear k hsl
    by_cases h0 : i < 0
    · go_enter Tryz.func75, Tryz.ntmps75
      go_wp2
      go_ret
      rw [hb.out]
      exact ⟨rfl, H.out, Turns.refl _ _⟩
    · have t3 : ((T.length : Nat) : Int) ≤ i := by omega
      clear hi
      go_enter Tryz.func75, Tryz.ntmps75
      go_wp2_with (go_at_call 42; refine (threadsH H.out).mono ?_; rintro e w' ⟨rfl, rfl⟩)
      go_ret
      rw [hb.out]
      exact ⟨rfl, H.out, Turns.refl _ _⟩
theorem askHc (k : HcIs w l a g q b u lo hi dl P T h) (i : Int) :
    Calls Tryz.prog 39 #[.pointer (some ⟨l, 0, none⟩), .int .i64 i] w (HOp w l a g q b u lo hi dl P T (beginH h i 0 1)) := by
  obtain ⟨x, hx⟩ : ∃ x, x = beginH h i 0 1 := ⟨_, rfl⟩
  have H := Lib.hid (beginHc k i 0 1)
  rw [← hx] at H ⊢
  obtain ⟨x1, x2⟩ := x
  clear k hx
  go_enter Tryz.func39, Tryz.ntmps39
  go_wp2_with fail
  refine H.out.mono ?_
  rintro en w1 ⟨rfl, h1, t1⟩
  have H1 := Lib.hid (And.intro h1 t1)
  clear h1 t1
  go_wp2
  go_ret
  exact ⟨rfl, H1.out⟩
theorem leaveHc (k : HcIs w l a g q b u lo hi dl P T h) (i : Int) :
    Calls Tryz.prog 41 #[.pointer (some ⟨l, 0, none⟩), .int .i64 i] w (HOp w l a g q b u lo hi dl P T (beginH h i 10 11)) := by
  obtain ⟨x, hx⟩ : ∃ x, x = beginH h i 10 11 := ⟨_, rfl⟩
  have H := Lib.hid (beginHc k i 10 11)
  rw [← hx] at H ⊢
  obtain ⟨x1, x2⟩ := x
  clear k hx
  go_enter Tryz.func41, Tryz.ntmps41
  go_wp2_with fail
  refine H.out.mono ?_
  rintro en w1 ⟨rfl, h1, t1⟩
  have H1 := Lib.hid (And.intro h1 t1)
  clear h1 t1
  go_wp2
  go_ret
  exact ⟨rfl, H1.out⟩
theorem nodeN_at (k : HcIs w l a g q b u lo hi dl P T h) {i : Nat} (hi : i < T.length) : (nodesTo P T T.length)[i]? = some ((nodeN P T i : Nat) : Int) ∧ nodeN P T i < (leavesL P).length := by
  have hm : T.getD i 0 ∈ leavesL P := thr_mem (chk_ok k.tab.ok).2.2.2 (i := i) (by rw [List.getD_eq_getElem?_getD, List.getElem?_eq_getElem hi]; rfl)
  have h1 := idx_nonneg (leavesL P) (T.getD i 0)
  have h0 := h1.1.2 hm
  have h2 := h1.2.1
  unfold nodeN
  refine ⟨?_, by omega⟩
  unfold nodesTo
  rw [List.getElem?_map, List.getElem?_take, if_pos hi, List.getElem?_eq_getElem hi]
  simp only [Option.map_some, Option.some.injEq]
  rw [show T.getD i 0 = T[i] by rw [List.getD_eq_getElem?_getD, List.getElem?_eq_getElem hi]; rfl] at h0 ⊢
  omega
/-- the word of the tail of a thread's node -/
theorem localH (k : HcIs w l a g q b u lo hi dl P T h) (i : Nat) (hi : i < T.length) :
    Calls Tryz.prog 117 #[.pointer (some ⟨l, 0, none⟩), .int .i64 i] w fun e w' => e = .returned (.int .i64 (2 + (nodeN P T i : Nat))) ∧ Qt w w' := by
  obtain ⟨hx, hlt⟩ := nodeN_at k hi
  obtain ⟨_, _, h32⟩ := k.n32
  obtain ⟨v, hv⟩ : ∃ v, v = nodeN P T i := ⟨_, rfl⟩
  rw [← hv] at hx hlt ⊢
  have HN := Lib.hid (fun W (h : TabF W b P T) => nodeF W b P T i hi h v hx)
  have HT := Lib.hid k.tab
  have HS := Lib.hid k.hs
  have c1 := k.c1
  have c2 := k.c2
  have x1 : IntKind.i64.wrap (2 + (v : Int)) = 2 + v := IntWalk.i64_in _ (by omega)
  clear k hv hx
  go_enter Tryz.func117, Tryz.ntmps117
  go_wp2
  go_quiet ((go_at_call 86; exact quiet_left (HN.out _ (HT.out.f.below (Qt.below ⟨_, rfl⟩ _)))))
  go_wp2
  go_ret
  exact ⟨rfl, ⟨_, rfl⟩⟩
end
end Go.Proofs.YtkdaiomjbkpedaaGreat
end
section
/- Layer 29 (hclh): stand. -/
namespace Go.Proofs.YtkdaiomjbkpedaaGreat
open Go.RowKit

section
variable {w w' : World} {l a g q b u lo hi : Nat} {dl : Int} {P T : List Int} {h : Hc}
def MidOk (w : World) (l a g q b u lo hi : Nat) (dl : Int) (P T : List Int) (h : Hc) (i : Nat) (p : Sp) (x : Ar × List Int × Sp) (e : Ending) (w' : World) : Prop :=
  e = .returned (.int .i64 x.2.2.pc) ∧ HcIs w' l a g q b u lo hi dl P T ⟨x.1, x.2.1, h.S.set i { x.2.2 with pc := p.pc }⟩ ∧ Turns [a, g, q, u] w w'
theorem HcIs.op (k : HcIs w l a g q b u lo hi dl P T h) {ar' : Ar} (t : Turns [a, g] w w') (h1 : ArIs w' a g ar') : HcIs w' l a g q b u lo hi dl P T ⟨ar', h.D, h.S⟩ := by
  have hnd := k.nd
  simp at hnd
  exact k.next (t.mono (by simp)) h1 (k.sp.turns t (by simp; omega)) (k.tu.turns t (by simp; omega)) k.sl
theorem HcIs.putS (k : HcIs w l a g q b u lo hi dl P T h) {i : Nat} {p p' : Sp} (hp : h.S[i]? = some p) {j : Nat} {v : Value} (hj : j < 4) (he : (encP4 p).set j v = encP4 p') : HcIs (w.setCell ⟨q, i * 4 + j, none⟩ v) l a g q b u lo hi dl P T ⟨h.ar, h.D, h.S.set i p'⟩ :=
  k.spot (k.sp.put hp hj he) (by simp [k.sl]) ((Turns.refl _ _).setCell (.inl (by simp)) _)
theorem turns_q {w : World} {a g q u : Nat} (p : Addr) (v : Value) (hp : p.block = q) : Turns [a, g, q, u] w (w.setCell p v) := (Turns.refl _ _).setCell (.inl (by simp [hp])) _
set_option maxRecDepth 100000 in
set_option maxHeartbeats 2000000 in
theorem standH (k : HcIs w l a g q b u lo hi dl P T h) (i : Nat) (hin : i < T.length) (p : Sp) (hp : h.S[i]? = some p) (ho : h.ar.ops + 1 ≤ 1000000000000) (hd : 0 ≤ dv h.D i ∧ dv h.D i < 1000000000) (hpc : p.pc = 1) :
    Calls Tryz.prog 76 #[.pointer (some ⟨l, 0, none⟩), .int .i64 i] w (MidOk w l a g q b u lo hi dl P T h i p (stepHp (leavesL P).length T.length dl h (nodeN P T i) i p)) := by
  obtain ⟨_, HN, _⟩ := k.n32
  have hi2 : (i : Int) < T.length := by omega
  have c5 := k.c5
  obtain ⟨v, hv⟩ : ∃ v, v = ldW h.ar.W (2 + (nodeN P T i : Int)) := ⟨_, rfl⟩
  obtain ⟨ar', har⟩ : ∃ s, s = swapA h.ar (2 + (nodeN P T i : Int)) (tokH i (dv h.D i + 1)) := ⟨_, rfl⟩
  have HX : Hid (stepHp (leavesL P).length T.length dl h (nodeN P T i) i p = (ar', h.D, if v ≠ 0 then { p with a := v, pc := 5 } else if 0 < dl then { p with a := v, b := dl, pc := 2 } else { p with a := v, b := 0, pc := 3 })) := Lib.hid (by
    unfold stepHp
    rw [if_pos hpc, ← hv, ← har])
  have HL := Lib.hid (fun W (k : HcIs W l a g q b u lo hi dl P T h) => localH k i hin)
  have HNx := Lib.hid (fun W (k : HcIs W l a g q b u lo hi dl P T h) => nextU k.tu i hin hd)
  have HSw0 := (fun W (k : HcIs W l a g q b u lo hi dl P T h) => swap_any k.ar (2 + (nodeN P T i : Int)) (tokH i (dv h.D i + 1)) ho)
  rw [← hv, ← har] at HSw0
  have HSw := Lib.hid HSw0
  have HC := Lib.hid (fun W (h : Hc) (k : HcIs W l a g q b u lo hi dl P T h) => And.intro k.c0 (And.intro k.c3 k.c4))
  have K1 := Lib.hid (k.below ((Below.refl _ w).drew))
  have HP := Lib.hid (And.intro hp hpc)
  clear HSw0 k hp hpc hd hv har
  by_cases hv0 : v = 0
  · have t0 : (v != 0) = false := by simpa using hv0
    have HV := Lib.hid hv0
    clear hv0
    by_cases hdl : 0 < dl
    · have HD := Lib.hid hdl
      go_enter Tryz.func76, Tryz.ntmps76
      go_wp2_with fail
      go_region_held3 (fun W => W.cell? ⟨l, 0, none⟩ = some (.pointer (some ⟨a, 0, none⟩)) ∧ W.cell? ⟨l, 3, none⟩ = some (.pointer (some ⟨u, 0, none⟩)) ∧ W.cell? ⟨l, 4, none⟩ = some (.int .i64 dl))
        (first | with_reducible exact HC.out _ _ K1.out | with_reducible exact HC.out _ _ K2.out | with_reducible exact HC.out _ _ K3.out | with_reducible exact HC.out _ _ K4.out | with_reducible exact HC.out _ _ K5.out)
        (first
          | (go_at_call 117; go_loud (refine (HL.out _ K1.out).mono ?_); rintro en w2 ⟨rfl, q2⟩; have K2 := Lib.hid (K1.out.below (Qt.below q2 _)); have T2 := Lib.hid (((Turns.refl [a, g, q, u] w).drew).trans (Turns.of_qt q2)); clear q2)
          | (go_at_call 118; go_loud (refine (HNx.out _ K2.out).mono ?_); rintro en w3 ⟨rfl, b3⟩; have K3 := Lib.hid (K2.out.below b3); have T3 := Lib.hid (T2.out.trans (Turns.of_below b3)); clear b3)
          | (go_at_call 92; go_loud (refine (HSw.out _ K3.out).mono ?_); rintro en w4 ⟨rfl, a4, t4⟩; have K4 := Lib.hid (K3.out.op t4 a4); have T4 := Lib.hid (T3.out.trans (t4.mono (T := [a, g, q, u]) (by simp))); have K5 := Lib.hid (K4.out.putS (p' := { p with a := v }) HP.out.1 (j := 1) (v := .int .i64 v) (by decide) rfl); have e1 := K4.out.sp.cell HP.out.1 1 _ rfl; have z1 := K4.out.sp.free (i * 4 + 1); clear a4 t4))
      all_goals
        have c4 := (HC.out _ _ K5.out).2.2
        have e2 := K5.out.sp.cell (i := i) (p := { p with a := v }) (by simp [K4.out.sl, hin]) 2 _ rfl
        have z2 := K5.out.sp.free (i * 4 + 2)
        have K6 := K5.out.putS (i := i) (p := { p with a := v }) (p' := { p with a := v, b := dl }) (by simp [K4.out.sl, hin]) (j := 2) (v := .int .i64 dl) (by decide) rfl
        simp only [List.set_set] at K6
        have K6H := Lib.hid K6
        clear K6
        go_wp2
        go_ret
        rw [HX.out, if_neg (fun h => h HV.out), if_pos HD.out]
        exact ⟨rfl, by rw [show ({ ({ p with a := v, b := dl, pc := 2 } : Sp) with pc := p.pc } : Sp) = { p with a := v, b := dl } from rfl]; exact K6H.out, (T4.out.trans (turns_q ⟨q, i * 4 + 1, none⟩ _ rfl)).trans (turns_q ⟨q, i * 4 + 2, none⟩ _ rfl)⟩
    · have HD := Lib.hid hdl
      go_enter Tryz.func76, Tryz.ntmps76
      go_wp2_with fail
      go_region_held3 (fun W => W.cell? ⟨l, 0, none⟩ = some (.pointer (some ⟨a, 0, none⟩)) ∧ W.cell? ⟨l, 3, none⟩ = some (.pointer (some ⟨u, 0, none⟩)) ∧ W.cell? ⟨l, 4, none⟩ = some (.int .i64 dl))
        (first | with_reducible exact HC.out _ _ K1.out | with_reducible exact HC.out _ _ K2.out | with_reducible exact HC.out _ _ K3.out | with_reducible exact HC.out _ _ K4.out | with_reducible exact HC.out _ _ K5.out)
        (first
          | (go_at_call 117; go_loud (refine (HL.out _ K1.out).mono ?_); rintro en w2 ⟨rfl, q2⟩; have K2 := Lib.hid (K1.out.below (Qt.below q2 _)); have T2 := Lib.hid (((Turns.refl [a, g, q, u] w).drew).trans (Turns.of_qt q2)); clear q2)
          | (go_at_call 118; go_loud (refine (HNx.out _ K2.out).mono ?_); rintro en w3 ⟨rfl, b3⟩; have K3 := Lib.hid (K2.out.below b3); have T3 := Lib.hid (T2.out.trans (Turns.of_below b3)); clear b3)
          | (go_at_call 92; go_loud (refine (HSw.out _ K3.out).mono ?_); rintro en w4 ⟨rfl, a4, t4⟩; have K4 := Lib.hid (K3.out.op t4 a4); have T4 := Lib.hid (T3.out.trans (t4.mono (T := [a, g, q, u]) (by simp))); have K5 := Lib.hid (K4.out.putS (p' := { p with a := v }) HP.out.1 (j := 1) (v := .int .i64 v) (by decide) rfl); have e1 := K4.out.sp.cell HP.out.1 1 _ rfl; have z1 := K4.out.sp.free (i * 4 + 1); clear a4 t4))
      all_goals
        have c4 := (HC.out _ _ K5.out).2.2
        have e2 := K5.out.sp.cell (i := i) (p := { p with a := v }) (by simp [K4.out.sl, hin]) 2 _ rfl
        have z2 := K5.out.sp.free (i * 4 + 2)
        have K6 := K5.out.putS (i := i) (p := { p with a := v }) (p' := { p with a := v, b := 0 }) (by simp [K4.out.sl, hin]) (j := 2) (v := .int .i64 0) (by decide) rfl
        simp only [List.set_set] at K6
        have K6H := Lib.hid K6
        clear K6
        go_wp2
        go_ret
        rw [HX.out, if_neg (fun h => h HV.out), if_neg (show ¬ 0 < dl by have := HD.out; omega)]
        exact ⟨rfl, by rw [show ({ ({ p with a := v, b := 0, pc := 3 } : Sp) with pc := p.pc } : Sp) = { p with a := v, b := 0 } from rfl]; exact K6H.out, (T4.out.trans (turns_q ⟨q, i * 4 + 1, none⟩ _ rfl)).trans (turns_q ⟨q, i * 4 + 2, none⟩ _ rfl)⟩
  · have t0 : (v != 0) = true := by simpa using hv0
    have HV := Lib.hid hv0
    clear hv0
    go_enter Tryz.func76, Tryz.ntmps76
    go_wp2_with fail
    go_region_held3 (fun W => W.cell? ⟨l, 0, none⟩ = some (.pointer (some ⟨a, 0, none⟩)) ∧ W.cell? ⟨l, 3, none⟩ = some (.pointer (some ⟨u, 0, none⟩)) ∧ W.cell? ⟨l, 4, none⟩ = some (.int .i64 dl))
      (first | with_reducible exact HC.out _ _ K1.out | with_reducible exact HC.out _ _ K2.out | with_reducible exact HC.out _ _ K3.out | with_reducible exact HC.out _ _ K4.out | with_reducible exact HC.out _ _ K5.out)
      (first
        | (go_at_call 117; go_loud (refine (HL.out _ K1.out).mono ?_); rintro en w2 ⟨rfl, q2⟩; have K2 := Lib.hid (K1.out.below (Qt.below q2 _)); have T2 := Lib.hid (((Turns.refl [a, g, q, u] w).drew).trans (Turns.of_qt q2)); clear q2)
        | (go_at_call 118; go_loud (refine (HNx.out _ K2.out).mono ?_); rintro en w3 ⟨rfl, b3⟩; have K3 := Lib.hid (K2.out.below b3); have T3 := Lib.hid (T2.out.trans (Turns.of_below b3)); clear b3)
        | (go_at_call 92; go_loud (refine (HSw.out _ K3.out).mono ?_); rintro en w4 ⟨rfl, a4, t4⟩; have K4 := Lib.hid (K3.out.op t4 a4); have T4 := Lib.hid (T3.out.trans (t4.mono (T := [a, g, q, u]) (by simp))); have K5 := Lib.hid (K4.out.putS (p' := { p with a := v }) HP.out.1 (j := 1) (v := .int .i64 v) (by decide) rfl); have e1 := K4.out.sp.cell HP.out.1 1 _ rfl; have z1 := K4.out.sp.free (i * 4 + 1); clear a4 t4))
    all_goals
      go_wp2
      go_ret
      rw [HX.out, if_pos HV.out]
      exact ⟨rfl, by rw [show ({ ({ p with a := v, pc := 5 } : Sp) with pc := p.pc } : Sp) = { p with a := v } from rfl]; exact K5.out, T4.out.trans (turns_q ⟨q, i * 4 + 1, none⟩ _ rfl)⟩
end
end Go.Proofs.YtkdaiomjbkpedaaGreat
end
section
/- Layer 29 (hclh): wait, cut, splice, look, free. -/
namespace Go.Proofs.YtkdaiomjbkpedaaGreat
open Go.RowKit

section
variable {w w' : World} {l a g q b u lo hi : Nat} {dl : Int} {P T : List Int} {h : Hc}
theorem set_same {S : List Sp} {i : Nat} {p : Sp} (hp : S[i]? = some p) : S.set i p = S := by
  apply List.ext_getElem?
  intro j
  rw [List.getElem?_set]
  by_cases e : i = j
  · subst e
    have := (List.getElem?_eq_some_iff.1 hp).1
    rw [if_pos rfl, if_pos this, hp]
  · rw [if_neg e]
set_option maxRecDepth 100000 in
set_option maxHeartbeats 1000000 in
theorem waitH (k : HcIs w l a g q b u lo hi dl P T h) (i : Nat) (hin : i < T.length) (p : Sp) (hp : h.S[i]? = some p) (hb : 1 ≤ p.b ∧ p.b ≤ 100000) (hpc : p.pc = 2) :
    Calls Tryz.prog 77 #[.pointer (some ⟨l, 0, none⟩), .int .i64 i] w (MidOk w l a g q b u lo hi dl P T h i p (stepHp (leavesL P).length T.length dl h (nodeN P T i) i p)) := by
  obtain ⟨_, HN, _⟩ := k.n32
  have hi2 : (i : Int) < T.length := by omega
  have c5 := k.c5
  have e2 := k.sp.cell hp 2 _ rfl
  have z2 := k.sp.free (i * 4 + 2)
  obtain ⟨hb1, hb2⟩ := hb
  have HX : Hid (stepHp (leavesL P).length T.length dl h (nodeN P T i) i p = (h.ar, h.D, { p with b := p.b - 1, pc := if 0 < p.b - 1 then 2 else 3 })) := Lib.hid (by
    unfold stepHp
    rw [if_neg (by omega), if_pos hpc])
  have K1 := k.putS (p' := { p with b := p.b - 1 }) hp (j := 2) (v := .int .i64 (p.b - 1)) (by decide) rfl
  have KH := Lib.hid K1
  have hql := k.sp.lt
  clear k hp hpc K1
  by_cases hg : 0 < p.b - 1
  · have HG := Lib.hid hg
    go_enter Tryz.func77, Tryz.ntmps77
    go_wp2
    go_ret
    rw [HX.out]
    exact ⟨by rw [if_pos HG.out]; rfl, KH.out, turns_q ⟨q, i * 4 + 2, none⟩ _ rfl⟩
  · have HG := Lib.hid hg
    go_enter Tryz.func77, Tryz.ntmps77
    go_wp2
    go_ret
    rw [HX.out]
    exact ⟨by rw [if_neg (by have := HG.out; omega)]; rfl, KH.out, turns_q ⟨q, i * 4 + 2, none⟩ _ rfl⟩
set_option maxRecDepth 100000 in
set_option maxHeartbeats 2000000 in
theorem cutH (k : HcIs w l a g q b u lo hi dl P T h) (i : Nat) (hin : i < T.length) (p : Sp) (hp : h.S[i]? = some p) (ho : h.ar.ops + 1 ≤ 1000000000000) (hpc : p.pc = 3) :
    Calls Tryz.prog 78 #[.pointer (some ⟨l, 0, none⟩), .int .i64 i] w (MidOk w l a g q b u lo hi dl P T h i p (stepHp (leavesL P).length T.length dl h (nodeN P T i) i p)) := by
  obtain ⟨_, HN, _⟩ := k.n32
  have hi2 : (i : Int) < T.length := by omega
  obtain ⟨v, hv⟩ : ∃ v, v = ldW h.ar.W (2 + (nodeN P T i : Int)) := ⟨_, rfl⟩
  obtain ⟨ar', har⟩ : ∃ s, s = swapA h.ar (2 + (nodeN P T i : Int)) 0 := ⟨_, rfl⟩
  have HX : Hid (stepHp (leavesL P).length T.length dl h (nodeN P T i) i p = (ar', h.D, { p with c := v, pc := 4 })) := Lib.hid (by
    unfold stepHp
    rw [if_neg (by omega), if_neg (by omega), if_pos hpc, ← hv, ← har])
  have HL := Lib.hid (fun W (k : HcIs W l a g q b u lo hi dl P T h) => localH k i hin)
  have HSw0 := (fun W (k : HcIs W l a g q b u lo hi dl P T h) => swap_any k.ar (2 + (nodeN P T i : Int)) 0 ho)
  rw [← hv, ← har] at HSw0
  have HSw := Lib.hid HSw0
  have HC := Lib.hid (fun W (h : Hc) (k : HcIs W l a g q b u lo hi dl P T h) => And.intro k.c0 k.c5)
  have K1 := Lib.hid (k.below ((Below.refl _ w).drew))
  have HP := Lib.hid (And.intro hp hpc)
  clear HSw0 k hp hpc hv har
  go_enter Tryz.func78, Tryz.ntmps78
  go_wp2_with fail
  go_region_held3 (fun W => W.cell? ⟨l, 0, none⟩ = some (.pointer (some ⟨a, 0, none⟩)) ∧ W.cell? ⟨l, 5, none⟩ = some (.slice (some ⟨q, 0, none⟩) T.length T.length))
    (first | with_reducible exact HC.out _ _ K1.out | with_reducible exact HC.out _ _ K2.out | with_reducible exact HC.out _ _ K4.out | with_reducible exact HC.out _ _ K5.out)
    (first
      | (go_at_call 117; go_loud (refine (HL.out _ K1.out).mono ?_); rintro en w2 ⟨rfl, q2⟩; have K2 := Lib.hid (K1.out.below (Qt.below q2 _)); have T2 := Lib.hid (((Turns.refl [a, g, q, u] w).drew).trans (Turns.of_qt q2)); clear q2)
      | (go_at_call 92; go_loud (refine (HSw.out _ K2.out).mono ?_); rintro en w4 ⟨rfl, a4, t4⟩; have K4 := Lib.hid (K2.out.op t4 a4); have T4 := Lib.hid (T2.out.trans (t4.mono (T := [a, g, q, u]) (by simp))); have K5 := Lib.hid (K4.out.putS (p' := { p with c := v }) HP.out.1 (j := 3) (v := .int .i64 v) (by decide) rfl); have e1 := K4.out.sp.cell HP.out.1 3 _ rfl; have z1 := K4.out.sp.free (i * 4 + 3); clear a4 t4))
  all_goals
    go_wp2
    go_ret
    rw [HX.out]
    exact ⟨rfl, K5.out, T4.out.trans (turns_q ⟨q, i * 4 + 3, none⟩ _ rfl)⟩
set_option maxRecDepth 100000 in
set_option maxHeartbeats 2000000 in
theorem spliceH (k : HcIs w l a g q b u lo hi dl P T h) (i : Nat) (hin : i < T.length) (p : Sp) (hp : h.S[i]? = some p) (ho : h.ar.ops + 1 ≤ 1000000000000) (hpc : p.pc = 4) :
    Calls Tryz.prog 79 #[.pointer (some ⟨l, 0, none⟩), .int .i64 i] w (MidOk w l a g q b u lo hi dl P T h i p (stepHp (leavesL P).length T.length dl h (nodeN P T i) i p)) := by
  obtain ⟨_, HN, _⟩ := k.n32
  have hi2 : (i : Int) < T.length := by omega
  have c5 := k.c5
  obtain ⟨v, hv⟩ : ∃ v, v = ldW h.ar.W 1 := ⟨_, rfl⟩
  obtain ⟨ar', har⟩ : ∃ s, s = swapA h.ar 1 p.c := ⟨_, rfl⟩
  have HX : Hid (stepHp (leavesL P).length T.length dl h (nodeN P T i) i p = (ar', h.D, { p with a := v, pc := if v = 0 then 10 else 5 })) := Lib.hid (by
    unfold stepHp
    rw [if_neg (by omega), if_neg (by omega), if_neg (by omega), if_pos hpc, ← hv, ← har])
  have HSw0 := (fun W (k : HcIs W l a g q b u lo hi dl P T h) => swap_any k.ar 1 p.c ho)
  rw [← hv, ← har] at HSw0
  have HSw := Lib.hid HSw0
  have HC := Lib.hid (fun W (h : Hc) (k : HcIs W l a g q b u lo hi dl P T h) (p' : Sp) (hp : h.S[i]? = some p') (hc : p'.c = p.c) => And.intro k.c0 (And.intro k.c2 (show W.cell? ⟨q, i * 4 + 3, none⟩ = some (.int .i64 p.c) by rw [← hc]; exact k.sp.cell hp 3 _ rfl)))
  have K1 := Lib.hid (k.below ((Below.refl _ w).drew))
  have HP := Lib.hid (And.intro hp hpc)
  have hSl := k.sl
  have HSl := Lib.hid hSl
  clear HSw0 k hp hpc hv har hSl
  by_cases hv0 : v = 0
  all_goals
    have t0 : (v == 0) = decide (v = 0) := by by_cases h : v = 0 <;> simp [h]
    first
      | rw [decide_eq_true hv0] at t0
      | rw [decide_eq_false hv0] at t0
    have HV := Lib.hid hv0
    clear hv0
    go_enter Tryz.func79, Tryz.ntmps79
    go_wp2_with fail
    go_region_held3 (fun W => W.cell? ⟨l, 0, none⟩ = some (.pointer (some ⟨a, 0, none⟩)) ∧ W.cell? ⟨l, 2, none⟩ = some (.int .i64 1) ∧ W.cell? ⟨q, i * 4 + 3, none⟩ = some (.int .i64 p.c))
      (first | with_reducible exact HC.out _ _ K1.out p HP.out.1 rfl | with_reducible exact HC.out _ _ K4.out p HP.out.1 rfl | with_reducible exact HC5.out)
      (first
        | (go_at_call 92; go_loud (refine (HSw.out _ K1.out).mono ?_); rintro en w4 ⟨rfl, a4, t4⟩; have K4 := Lib.hid (K1.out.op t4 a4); have T4 := Lib.hid (((Turns.refl [a, g, q, u] w).drew).trans (t4.mono (T := [a, g, q, u]) (by simp))); have K5 := Lib.hid (K4.out.putS (p' := { p with a := v }) HP.out.1 (j := 1) (v := .int .i64 v) (by decide) rfl); have HC5 := Lib.hid (HC.out _ _ K5.out { p with a := v } (by simp [HSl.out, hin]) rfl); have e1 := K4.out.sp.cell HP.out.1 1 _ rfl; have z1 := K4.out.sp.free (i * 4 + 1); clear a4 t4))
    all_goals
      go_wp2
      go_ret
      rw [HX.out]
      first
        | exact ⟨by rw [if_pos HV.out]; rfl, K5.out, T4.out.trans (turns_q ⟨q, i * 4 + 1, none⟩ _ rfl)⟩
        | exact ⟨by rw [if_neg HV.out]; rfl, K5.out, T4.out.trans (turns_q ⟨q, i * 4 + 1, none⟩ _ rfl)⟩
set_option maxRecDepth 100000 in
set_option maxHeartbeats 2000000 in
theorem lookH (k : HcIs w l a g q b u lo hi dl P T h) (i : Nat) (hin : i < T.length) (p : Sp) (hp : h.S[i]? = some p) (ho : h.ar.ops + 1 ≤ 1000000000000) (ha : 0 ≤ p.a ∧ p.a < 9223372036854775808) (hpc : p.pc = 5) :
    Calls Tryz.prog 80 #[.pointer (some ⟨l, 0, none⟩), .int .i64 i] w (MidOk w l a g q b u lo hi dl P T h i p (stepHp (leavesL P).length T.length dl h (nodeN P T i) i p)) := by
  obtain ⟨_, HN, _⟩ := k.n32
  have hnd := k.nd
  have hua : u ≠ a := by simp at hnd; omega
  have hug : u ≠ g := by simp at hnd; omega
  have hi2 : (i : Int) < T.length := by omega
  have c3 := k.c3
  have c5 := k.c5
  have e1 := k.sp.cell hp 1 _ rfl
  obtain ⟨bb, hbb⟩ : ∃ x, x = isB h.ar.W (2 + ((leavesL P).length : Int)) T.length p.a := ⟨_, rfl⟩
  have HX : Hid (stepHp (leavesL P).length T.length dl h (nodeN P T i) i p = (isA h.ar (2 + ((leavesL P).length : Int)) T.length p.a, h.D, { p with pc := if bb then 10 else 5 })) := Lib.hid (by
    unfold stepHp
    rw [if_neg (by omega), if_neg (by omega), if_neg (by omega), if_neg (by omega), if_pos hpc, ← hbb])
  have K1 := k.below ((Below.refl _ w).drew)
  have HI0 := isU K1.ar K1.tu hua hug p.a ha.1 ha.2 ho
  rw [← hbb] at HI0
  have HI := Lib.hid HI0
  have K1H := Lib.hid K1
  have HP := Lib.hid (And.intro hp hpc)
  clear k hp hpc HI0 K1 hnd hua hug hbb ha
  go_enter Tryz.func80, Tryz.ntmps80
  go_wp2_with fail
  refine wp_region_still_tail 12 (by kernel_rfl) (by kernel_rfl) ?_
  simp only [List.take_succ_cons, List.take_zero, List.drop_succ_cons, List.drop_zero]
  change wpStill _ _ (World.drew _) _ _ _
  repeat still_step
  refine wpStill_nil ?_
  change wpList _ _ _ _ _ (World.drew w)
  go_wp2_with fail
  refine HI.out.mono ?_
  rintro en w2 ⟨rfl, a2, t2⟩
  have K2 := Lib.hid (K1H.out.op t2 a2)
  have T2 := Lib.hid (((Turns.refl [a, g, q, u] w).drew).trans (t2.mono (T := [a, g, q, u]) (by simp)))
  clear a2 t2
  cases bb
  all_goals
    go_wp2
    go_ret
    rw [HX.out]
    refine ⟨rfl, ?_, T2.out⟩
    have e : h.S.set i ({ ({ p with pc := 0 } : Sp) with pc := p.pc } : Sp) = h.S := set_same HP.out.1
    rw [show ∀ x : Int, ({ ({ p with pc := x } : Sp) with pc := p.pc } : Sp) = p from fun _ => rfl, set_same HP.out.1]
    exact K2.out
set_option maxHeartbeats 1000000 in
theorem freeH (k : HcIs w l a g q b u lo hi dl P T h) (i : Nat) (hin : i < T.length) (p : Sp) (hp : h.S[i]? = some p) (ho : h.ar.ops + 1 ≤ 1000000000000) (hd : 0 ≤ dv h.D i ∧ dv h.D i < 1000000000) (hpc : p.pc = 11) :
    Calls Tryz.prog 81 #[.pointer (some ⟨l, 0, none⟩), .int .i64 i] w (MidOk w l a g q b u lo hi dl P T h i p (stepHp (leavesL P).length T.length dl h (nodeN P T i) i p)) := by
  have hnd := k.nd
  have hua : u ≠ a := by simp at hnd; omega
  have hug : u ≠ g := by simp at hnd; omega
  have hqd : q ∉ [a, g, u] := by simp at hnd ⊢; omega
  have c3 := k.c3
  have HX : Hid (stepHp (leavesL P).length T.length dl h (nodeN P T i) i p = (addA h.ar (2 + ((leavesL P).length : Int) + i) 1, h.D.set i (dv h.D i + 1), { p with pc := 0 })) := Lib.hid (by
    unfold stepHp
    rw [if_neg (by omega), if_neg (by omega), if_neg (by omega), if_neg (by omega), if_neg (by omega)])
  have HI := Lib.hid (doneU k.ar k.tu hua hug i hin hd ho)
  have KH := Lib.hid (And.intro k hqd)
  have HP := Lib.hid hp
  clear k hp hpc hnd hua hug hqd
  go_enter Tryz.func81, Tryz.ntmps81
  go_wp2_with fail
  refine HI.out.mono ?_
  rintro en w2 ⟨rfl, a2, u2, t2⟩
  have K2 := Lib.hid (And.intro (KH.out.1.next (t2.mono (T := [a, g, q, u]) (by simp)) a2 (KH.out.1.sp.turns t2 KH.out.2) u2 KH.out.1.sl) (t2.mono (T := [a, g, q, u]) (by simp)))
  clear a2 u2 t2
  go_wp2
  go_ret
  rw [HX.out]
  refine ⟨rfl, ?_, K2.out.2⟩
  rw [show ({ ({ p with pc := 0 } : Sp) with pc := p.pc } : Sp) = p from rfl, set_same HP.out]
  exact K2.out.1
end
end Go.Proofs.YtkdaiomjbkpedaaGreat
end
section
/- Layer 29 (hclh): Step. -/
namespace Go.Proofs.YtkdaiomjbkpedaaGreat
open Go.RowKit

def HCond (h : Hc) : Prop := h.ar.ops + 1 ≤ 1000000000000 ∧ ∀ j p, h.S[j]? = some p → (0 ≤ dv h.D j ∧ dv h.D j < 1000000000) ∧ (p.pc = 2 → 1 ≤ p.b ∧ p.b ≤ 100000) ∧ (p.pc = 5 → 0 ≤ p.a ∧ p.a < 9223372036854775808)
section
variable {w w' : World} {l a g q b u lo hi : Nat} {dl : Int} {P T : List Int} {h : Hc}
set_option maxRecDepth 100000 in
set_option maxHeartbeats 4000000 in
theorem stepHl (k : HcIs w l a g q b u lo hi dl P T h) (i : Int) (C : HCond h) :
    Calls Tryz.prog 40 #[.pointer (some ⟨l, 0, none⟩), .int .i64 i] w (HOp w l a g q b u lo hi dl P T (stepH (leavesL P).length T.length dl (nodeN P T) h i)) := by
  have hfield := field_pc
  have H := Lib.hid k
  obtain ⟨_, HN, _⟩ := k.n32
  have hsl := k.sl
  obtain ⟨ho, hcond⟩ := C
  obtain ⟨p, hp⟩ : ∃ p, p = getS h.S i := ⟨_, rfl⟩
  have HP := Lib.hid hp
  by_cases hc : okI h.S i ∧ goesH p = true
  · obtain ⟨hi9, hg⟩ := hc
    have hget := getS_in hi9
    rw [← hp] at hget
    obtain ⟨hd, hb2, ha5⟩ := hcond _ _ hget
    obtain ⟨h0, h9⟩ := id hi9
    obtain ⟨n, rfl⟩ := Int.eq_ofNat_of_zero_le h0
    simp only [Int.toNat_natCast] at hget hd
    rw [hsl] at h9
    have hn : n < T.length := by omega
    have hn2 : (n : Int) < T.length := by omega
    obtain ⟨y, hy⟩ : ∃ y, y = stepHp (leavesL P).length T.length dl h (nodeN P T n) n p := ⟨_, rfl⟩
    have HS : Hid (stepH (leavesL P).length T.length dl (nodeN P T) h n = (⟨y.1, y.2.1, h.S.set n y.2.2⟩, decide (y.2.2.pc = 10 ∨ y.2.2.pc = 0))) := Lib.hid (by
      unfold stepH
      rw [← HP.out, if_pos ⟨hi9, hg⟩]
      simp only [Int.toNat_natCast]
      rw [hy])
    rcases goes_iff.1 hg with e | e | e | e | e | e
    all_goals
      first
        | have HM0 := fun W (k : HcIs W l a g q b u lo hi dl P T h) => standH k n hn p hget ho hd e
        | have HM0 := fun W (k : HcIs W l a g q b u lo hi dl P T h) => waitH k n hn p hget (hb2 e) e
        | have HM0 := fun W (k : HcIs W l a g q b u lo hi dl P T h) => cutH k n hn p hget ho e
        | have HM0 := fun W (k : HcIs W l a g q b u lo hi dl P T h) => spliceH k n hn p hget ho e
        | have HM0 := fun W (k : HcIs W l a g q b u lo hi dl P T h) => lookH k n hn p hget ho (ha5 e) e
        | have HM0 := fun W (k : HcIs W l a g q b u lo hi dl P T h) => freeH k n hn p hget ho hd e
      rw [← hy] at HM0
      have HM := Lib.hid HM0
      first | have u1 : (p.pc == 1) = true := by simp [e]
            | have u1 : (p.pc == 1) = false := by simp [e]
      first | have u2 : (p.pc == 2) = true := by simp [e]
            | have u2 : (p.pc == 2) = false := by simp [e]
      first | have u3 : (p.pc == 3) = true := by simp [e]
            | have u3 : (p.pc == 3) = false := by simp [e]
      first | have u4 : (p.pc == 4) = true := by simp [e]
            | have u4 : (p.pc == 4) = false := by simp [e]
      first | have u5 : (p.pc == 5) = true := by simp [e]
            | have u5 : (p.pc == 5) = false := by simp [e]
      first | have u6 : (p.pc == 11) = true := by simp [e]
            | have u6 : (p.pc == 11) = false := by simp [e]
      have HG := Lib.hid hget
      clear k hp hget h0 h9 hi9 hg hd hb2 ha5 hcond hy HM0 e hsl
      go_enter Tryz.func40, Tryz.ntmps40
      go_wp2_with fail
      refine (spotH H.out n).mono ?_
      rintro en w1 ⟨rfl, b1⟩
      rw [← HP.out]
      unfold spotV
      have H1 := Lib.hid (And.intro (H.out.below b1) b1)
      clear b1
      go_wp2_with fail
      refine (HM.out _ H1.out.1).mono ?_
      rintro en w2 ⟨rfl, K2, t2⟩
      have hg2 : (h.S.set n { y.2.2 with pc := p.pc })[n]? = some { y.2.2 with pc := p.pc } := by
        have := (List.getElem?_eq_some_iff.1 HG.out).1
        simp [this]
      have c5 := K2.c5
      have d0 := K2.sp.cell hg2 0 _ rfl
      simp only [Nat.add_zero] at d0
      have f0 := K2.sp.free (n * 4)
      have hq := K2.sp.lt
      have K3 := K2.putS hg2 (j := 0) (v := .int .i64 y.2.2.pc) (p' := y.2.2) (by decide) rfl
      simp only [Nat.add_zero, List.set_set] at K3
      have H2 := Lib.hid (And.intro K3 (((Turns.of_below H1.out.2).trans t2).trans (turns_q ⟨q, n * 4, none⟩ (.int .i64 y.2.2.pc) rfl)))
      clear K2 t2 hg2 K3
      cases z1 : (y.2.2.pc == 10)
      · cases z0 : (y.2.2.pc == 0)
        · have HD : Hid (decide (y.2.2.pc = 10 ∨ y.2.2.pc = 0) = false) := Lib.hid (by simp at z0 z1; simp [z0, z1])
          go_wp2
          go_ret
          rw [HS.out]
          exact ⟨ret_bool HD.out.symm, H2.out.1, H2.out.2⟩
        · have HD : Hid (decide (y.2.2.pc = 10 ∨ y.2.2.pc = 0) = true) := Lib.hid (by simp at z0; simp [z0])
          go_wp2
          go_ret
          rw [HS.out]
          exact ⟨ret_bool HD.out.symm, H2.out.1, H2.out.2⟩
      · have HD : Hid (decide (y.2.2.pc = 10 ∨ y.2.2.pc = 0) = true) := Lib.hid (by simp at z1; simp [z1])
        go_wp2
        go_ret
        rw [HS.out]
        exact ⟨ret_bool HD.out.symm, H2.out.1, H2.out.2⟩
  · have HS : Hid (stepH (leavesL P).length T.length dl (nodeN P T) h i = (h, false)) := Lib.hid (by unfold stepH; rw [← hp, if_neg hc])
    have hz : goesH p = false := by
      by_cases hi9 : okI h.S i
      · cases hg : goesH p
        · rfl
        · exact absurd ⟨hi9, hg⟩ hc
      · rw [hp, getS_out hi9]; rfl
    unfold goesH at hz
    simp only [Bool.or_eq_false_iff] at hz
    obtain ⟨⟨⟨⟨⟨u1, u2⟩, u3⟩, u4⟩, u5⟩, u6⟩ := hz
    clear k hp hc hcond hsl
    go_enter Tryz.func40, Tryz.ntmps40
    go_wp2_with fail
    refine (spotH H.out i).mono ?_
    rintro en w1 ⟨rfl, b1⟩
    rw [← HP.out]
    unfold spotV
    have H1 := Lib.hid (And.intro (H.out.below b1) b1)
    clear b1
    go_wp2
    go_ret
    rw [HS.out]
    exact ⟨rfl, H1.out.1, Turns.of_below H1.out.2⟩
end
end Go.Proofs.YtkdaiomjbkpedaaGreat
end
