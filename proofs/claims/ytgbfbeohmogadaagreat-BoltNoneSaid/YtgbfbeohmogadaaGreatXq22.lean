/- Running closed code: what is made, and effects, in a drawn region. -/
import Derived.Test.YtgbfbeohmogadaaGreatXq21
namespace Go.Proofs.YtgbfbeohmogadaaGreat
open Go.RowKit
set_option linter.unusedVariables false
set_option linter.unusedSectionVars false

theorem edgesB_sup {anc : Tr Nat} {i : Nat} : ∀ (l : List Edge) (a : Nat), edgesB l anc i = some a → ∀ e ∈ l, Region.binds .any e = true → a.testBit e.on = true ∧ ∀ b, anc.get e.on = some b → ∀ j, b.testBit j = true → a.testBit j = true
  | [], a, h, e, he, _ => by simp at he
  | e0 :: l, a, h, e, he, hb => by
    unfold edgesB at h
    split at h
    · cases h
    · rename_i s hs
      split at h
      · rename_i hb0
        split at h
        · rename_i hlt
          split at h
          · rename_i b0 hbb
            injection h with h
            subst h
            have tb : ∀ j, Nat.testBit (Nat.lor (Nat.lor s (Nat.shiftLeft 1 e0.on)) b0) j = (s.testBit j || (1 <<< e0.on).testBit j || b0.testBit j) := fun j => by
              show ((s ||| (1 <<< e0.on)) ||| b0).testBit j = _
              rw [Nat.testBit_or, Nat.testBit_or]
            rcases List.mem_cons.1 he with rfl | he
            · refine ⟨?_, fun b hb2 j hj => ?_⟩
              · rw [tb, Nat.testBit_shiftLeft]; simp
              · rw [hbb] at hb2; injection hb2 with hb2; subst hb2; rw [tb, hj]; simp
            · obtain ⟨h1, h2⟩ := edgesB_sup l s hs e he hb
              refine ⟨by rw [tb, h1]; simp, fun b hb2 j hj => ?_⟩
              rw [tb, h2 b hb2 j hj]; simp
          · cases h
        · cases h
      · rename_i hb0
        injection h with h
        subst h
        rcases List.mem_cons.1 he with rfl | he
        · exact absurd hb hb0
        · exact edgesB_sup l s hs e he hb
section
variable {E : Env} (h : EnvOk E)
include h
theorem isAnc_trans : ∀ (i j k : Nat), i < E.ops.size → E.isAnc j i = true → E.isAnc k j = true → E.isAnc k i = true := by
  intro i
  induction i using Nat.strongRecOn with
  | _ i ih =>
    intro j k hi hj hk
    obtain ⟨o, a, ho, ha, hb, hjb⟩ := isAnc_def h hj hi
    obtain ⟨ed, hmem, hbind, hlt, hx⟩ := edgesB_ok _ _ hb j hjb
    obtain ⟨_, h2⟩ := edgesB_sup _ _ hb ed hmem hbind
    have key : E.isAnc k ed.on = true := by
      rcases hx with rfl | ⟨b, hbb, hbj⟩
      · exact hk
      · exact ih ed.on hlt j k (by omega) (by unfold Env.isAnc; rw [hbb]; exact hbj) hk
    have key2 := key
    unfold Env.isAnc at key2
    split at key2
    · rename_i b hbb
      unfold Env.isAnc
      rw [ha]
      exact h2 b hbb k key2
    · cases key2
variable {n : Nat} {rs : Tr Rec} {efs : List Nat} {nx : Nat} (F : Fx E E.ops.size rs efs nx)
include F
theorem suffix_uniq {e : Nat} {l l' : List Nat} (h1 : (e :: l) <:+ efs) (h2 : (e :: l') <:+ efs) : l = l' := by
  have nd : ∀ {x y : List Nat}, (e :: x) <:+ efs → (e :: y) <:+ (e :: x) → x = y := fun {x y} hx hy => by
    rcases List.suffix_cons_iff.1 hy with e1 | e1
    · injection e1 with _ e1; exact e1.symm
    · have hp : List.Pairwise (· > ·) (e :: x) := F.dec.sublist hx.sublist
      have hm : e ∈ x := e1.subset (by simp)
      exact absurd ((List.pairwise_cons.1 hp).1 e hm) (by omega)
  rcases List.suffix_or_suffix_of_suffix h1 h2 with k | k
  · exact (nd h2 k).symm
  · exact nd h1 k
theorem eff_chain {e : Nat} {l : List Nat} (hs : (e :: l) <:+ efs) : ∀ x, lastE l = some x → E.isAnc x e = true := by
  obtain ⟨hlt, R, ha, hR, hk⟩ := F.eff e (hs.subset (by simp))
  obtain ⟨R', q1, q2, _⟩ := F.all e _ hlt (Array.getElem?_eq_getElem hlt)
  rw [hR] at q1
  injection q1 with q1
  subst q1
  unfold OpF at q2
  rw [hk] at q2
  obtain ⟨_, rest, k2, k3, _⟩ := q2
  rw [suffix_uniq h F hs k2]
  exact k3
theorem chain_listed {D : Nat → Prop} (hD : ∀ i j, i < E.ops.size → D i → E.isAnc j i = true → D j) : ∀ (l : List Nat) (e : Nat), (e :: l) <:+ efs → (∀ j, E.isAnc j e = true → D j) → ∀ x ∈ l, D x
  | [], e, _, _, x, hx => by simp at hx
  | y :: l, e, hs, ha, x, hx => by
    have hy := ha y (eff_chain h F hs y rfl)
    have hs' : (y :: l) <:+ efs := (List.suffix_cons e _).trans hs
    rcases List.mem_cons.1 hx with rfl | hx
    · exact hy
    · exact chain_listed hD l y hs' (fun j hj => hD y j (F.eff y (hs'.subset (by simp))).1 hy hj) x hx
end
theorem RelH.keepW {r : Nm} {H : Hp} {w w' : World} (h : RelH r H w) (k : ∀ j B b s, H.get j = some B → r j = some (b, s) → w'.heap[b]? = w.heap[b]?) : RelH r H w' := by
  refine ⟨fun j D hj => ?_, h.inj⟩
  obtain ⟨b, sz, h1, h2⟩ := h.at_ j D hj
  exact ⟨b, sz, h1, h2.keep (k j D b sz hj h1)⟩
section
variable {E : Env} (h : EnvOk E) {rs : Tr Rec} {efs : List Nat} {nxE : Nat} (F : Fx E E.ops.size rs efs nxE) {r0 : Nm} {w0 : World} {listed : Array Bool} {a : Act} {w : World} {r : Nm} {eD later : List Nat}
  (I : Inv E rs efs r0 w0 listed a w r eD later) {i : Nat} {o : Oper} {R : Rec} (ho : E.ops[i]? = some o) (hR : rs.get i = some R) (hn : ¬ Li listed i) (hed : ∀ e ∈ o.after.toList, Region.binds .any e = true → Li listed e.on)
include h F I ho hR hn hed
theorem after_at {k : Nat} {B : Bk} (e : (E.after rs (lastE eD)).get k = some B) : ∃ b sz, r k = some (b, sz) ∧ BR (r.cut (naOf E rs (lastE eD))) w B b sz ∧ b < w.heap.size := by
  obtain ⟨b, sz, h1, h2⟩ := I.hp.at_ k B e
  exact ⟨b, sz, cut_le_self _ _ _ _ h1, h2, h2.lt⟩
/-- an operation that makes a block -/
theorem Inv.make {B : Bk} (hk : R.k = .alloc B) (hna : R.na = R.nb + 1) {cs : Array Value} (hB : BR (r.cut R.nb) (w.alloc (.cells cs B.e)) B w.heap.size cs.size) (u : Value)
    (hu : ∀ v, R.v = some v → VR ((r.add R.nb (w.heap.size, cs.size)).cut R.na) v u) : Inv E rs efs r0 w0 (listed.setIfInBounds i true) (a.put o.dst u) (w.alloc (.cells cs B.e)) (r.add R.nb (w.heap.size, cs.size)) eD later := by
  have hi := (Array.getElem?_eq_some_iff.1 ho).1
  have hil : i < listed.size := by rw [I.size]; exact hi
  have lo0 : E.s0.nx ≤ R.nb := by
    obtain ⟨R', q1, q2, q3, q4, q5⟩ := F.all i o hi ho
    rw [hR] at q1
    injection q1 with q1
    subst q1
    exact q3
  have hnone : r R.nb = none := nb_fresh h F I ho hR hn hed (by omega) R.nb (Nat.le_refl _) (by omega)
  have hle := Nm.le_add hnone (w.heap.size, cs.size)
  obtain ⟨f1, f2, f3, f4⟩ := put_frame h F I ho hR hn hed hle (fun _ _ _ _ _ _ => trivial) u hu
  have back : ∀ {q : Nat}, Li (listed.setIfInBounds i true) q → q ≠ i → Li listed q := fun {q} hl hq => ((Li_set hil q).1 hl).resolve_left hq
  have recI : ∀ {S : Rec}, rs.get i = some S → S = R := fun {S} hS => by rw [hR] at hS; injection hS with hS; exact hS.symm
  have old : ∀ b, b < w.heap.size → (w.alloc (.cells cs B.e)).heap[b]? = w.heap[b]? := fun b hb => heap_alloc_old w _ hb
  have radd : ∀ k, k ≠ R.nb → (r.add R.nb (w.heap.size, cs.size)) k = r k := fun k hk => by unfold Nm.add; rw [if_neg hk]
  have kne : ∀ {k : Nat} {x : Nat × Nat}, r k = some x → k ≠ R.nb := fun {k x} hx e => by subst e; rw [hnone] at hx; cases hx
  have pold : ∀ q S D, Li (listed.setIfInBounds i true) q → q ≠ i → rs.get q = some S → S.k = .alloc D → pendB E (lastE eD) q → ∃ b sz, (r.add R.nb (w.heap.size, cs.size)) S.nb = r S.nb ∧ r S.nb = some (b, sz) ∧ BR (r.cut S.na) w D b sz ∧ w0.heap.size ≤ b ∧ ∀ k D s, (E.after rs (lastE eD)).get k = some D → r k ≠ some (b, s) := fun q S D hl hq hS hD hp => by
    obtain ⟨b, sz, p1, p2, p3, p4⟩ := I.pend q S D (back hl hq) hS hD hp
    exact ⟨b, sz, radd _ (kne p1), p1, p2, p3, p4⟩
  refine ⟨by simpa using I.size, clo_set h F I ho hR hn hed, I.efs_eq, fun e he => (Li_set hil e).2 (.inr (I.eD_in e he)), fun e he hl => ?_, f1, f2, f3, f4,
    (I.hp.mono (cut_le hle (Nat.le_refl _))).keepW (w := w) (fun j D b s hj hr => old b ?_), fun q S D hl hS hD hp => ?_, fun q S D q' S' D' b s s' hl hS hD hp hl' hS' hD' hp' hb hb' => ?_, fun k x hk' => ?_, Nm.le_trans I.le0 hle, fun k hk' => (radd k (by have := lo0; omega)).trans (I.low0 k hk'), I.os, I.tape, I.output,
    Nat.le_trans I.wsz (by simp), fun b hb hno => (old b (Nat.lt_of_lt_of_le hb I.wsz)).trans (I.blk b hb hno), fun k D b s hk' hr => ?_⟩
  · rcases (Li_set hil e).1 hl with rfl | hl
    · obtain ⟨_, S, ha, hS, hSk⟩ := F.eff e (by rw [I.efs_eq]; exact List.mem_append_left _ he)
      rw [recI hS, hk] at hSk
      cases hSk
    · exact I.later_out e he hl
  · obtain ⟨b', s', h1, _, h3⟩ := after_at h F I ho hR hn hed hj
    have := cut_le_self _ _ _ _ hr
    rw [hle _ _ h1] at this
    injection this with this
    injection this with e1 _
    omega
  · by_cases hq : q = i
    · subst hq
      have := recI hS
      subst this
      rw [hk] at hD
      injection hD with hD
      subst hD
      refine ⟨_, _, Nm.add_at _ _ _, hB.mono (cut_le hle (by omega)), I.wsz, fun k D' s hk' hr => ?_⟩
      obtain ⟨b', s', h1, _, h3⟩ := after_at h F I ho hR hn hed hk'
      rw [hle _ _ h1] at hr
      injection hr with hr
      injection hr with e1 _
      omega
    · obtain ⟨b, sz, p0, p1, p2, p3, p4⟩ := pold q S D hl hq hS hD hp
      refine ⟨b, sz, by rw [p0]; exact p1, (p2.mono (cut_le hle (Nat.le_refl _))).keep (old b p2.lt), p3, fun k D' s hk' hr => ?_⟩
      obtain ⟨b', s', h1, _, h3⟩ := after_at h F I ho hR hn hed hk'
      rw [radd k (kne h1)] at hr
      exact p4 k D' s hk' hr
  · by_cases hq : q = i <;> by_cases hq' : q' = i
    · rw [hq, hq']
    · subst hq
      have := recI hS
      subst this
      obtain ⟨c, sz, p0, p1, p2, _⟩ := pold q' S' D' hl' hq' hS' hD' hp'
      rw [p0, p1] at hb'
      rw [Nm.add_at] at hb
      injection hb with hb; injection hb with e1 _
      injection hb' with hb'; injection hb' with e2 _
      have := p2.lt
      omega
    · subst hq'
      have := recI hS'
      subst this
      obtain ⟨c, sz, p0, p1, p2, _⟩ := pold q S D hl hq hS hD hp
      rw [p0, p1] at hb
      rw [Nm.add_at] at hb'
      injection hb with hb; injection hb with e1 _
      injection hb' with hb'; injection hb' with e2 _
      have := p2.lt
      omega
    · obtain ⟨c, sz, p0, _⟩ := pold q S D hl hq hS hD hp
      obtain ⟨c', sz', p0', _⟩ := pold q' S' D' hl' hq' hS' hD' hp'
      rw [p0] at hb
      rw [p0'] at hb'
      exact I.pinj q S D q' S' D' b s s' (back hl hq) hS hD hp (back hl' hq') hS' hD' hp' hb hb'
  · by_cases e : k = R.nb
    · exact .inr ⟨i, R, (Li_set hil i).2 (.inl rfl), hR, by omega, by omega⟩
    · rw [radd k e] at hk'
      rcases I.born k x hk' with hb | ⟨j, S, hl, hS, hb⟩
      · exact .inl hb
      · exact .inr ⟨j, S, (Li_set hil j).2 (.inr hl), hS, hb⟩
  · obtain ⟨b', s', h1, _, h3⟩ := after_at h F I ho hR hn hed hk'
    rw [radd k (kne h1)] at hr
    exact I.own k D b s hk' hr
end
end Go.Proofs.YtgbfbeohmogadaaGreat
