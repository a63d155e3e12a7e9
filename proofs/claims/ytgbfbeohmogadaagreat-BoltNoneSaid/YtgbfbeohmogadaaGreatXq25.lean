/- Running closed code: a drawn region's end. -/
import Derived.Test.YtgbfbeohmogadaaGreatXq24
namespace Go.Proofs.YtgbfbeohmogadaaGreat
open Go.RowKit
set_option linter.unusedVariables false
set_option linter.unusedSectionVars false

theorem endT_get {rs : Tr Rec} {t : Nat} {v : V} : ∀ (l : List Oper) (i : Nat) (tm : Tr V), (endT rs l i tm).get t = some v →
    (∃ k o R, l[k]? = some o ∧ o.dst = some t ∧ rs.get (i + k) = some R ∧ R.v = some v) ∨ (tm.get t = some v ∧ ∀ (k : Nat) (o : Oper), l[k]? = some o → o.dst ≠ some t)
  | [], i, tm, e => .inr ⟨e, fun k o hk => by simp at hk⟩
  | o :: l, i, tm, e => by
    unfold endT at e
    rcases endT_get l (i + 1) _ e with ⟨k, o', R, h1, h2, h3, h4⟩ | ⟨h1, h2⟩
    · exact .inl ⟨k + 1, o', R, by simpa using h1, h2, by rw [show i + (k + 1) = i + 1 + k by omega]; exact h3, h4⟩
    · have cons : o.dst ≠ some t → ∀ (k : Nat) (o' : Oper), (o :: l)[k]? = some o' → o'.dst ≠ some t := fun hd k o' hk => by
        cases k with
        | zero => simp at hk; subst hk; exact hd
        | succ k => exact h2 k o' (by simpa using hk)
      split at h1
      · rename_i hd
        exact .inr ⟨h1, cons (by rw [hd]; simp)⟩
      · rename_i d hd
        split at h1
        · rename_i v' nb na kd hr
          rw [Tr.get_set] at h1
          split at h1
          · rename_i ht
            injection h1 with h1
            subst ht h1
            exact .inl ⟨0, o, _, rfl, hd, hr, rfl⟩
          · rename_i ht
            exact .inr ⟨h1, cons (by rw [hd]; simpa using fun e => ht e.symm)⟩
        · rw [Tr.get_del] at h1
          split at h1
          · cases h1
          · rename_i ht
            exact .inr ⟨h1, cons (by rw [hd]; simpa using fun e => ht e.symm)⟩
theorem endH_get {E : Env} {rs : Tr Rec} {p : Option Nat} {k : Nat} {B : Bk} : ∀ (q : Nat), (endH E rs p q).get k = some B → (E.after rs p).get k = some B ∨ ∃ j S, j < q ∧ rs.get j = some S ∧ S.k = .alloc B ∧ S.nb = k ∧ pendB E p j
  | 0, e => .inl e
  | q + 1, e => by
    have lift : ((E.after rs p).get k = some B ∨ ∃ j S, j < q ∧ rs.get j = some S ∧ S.k = .alloc B ∧ S.nb = k ∧ pendB E p j) → ((E.after rs p).get k = some B ∨ ∃ j S, j < q + 1 ∧ rs.get j = some S ∧ S.k = .alloc B ∧ S.nb = k ∧ pendB E p j) := fun h => by
      rcases h with h | ⟨j, S, h1, h2⟩
      · exact .inl h
      · exact .inr ⟨j, S, by omega, h2⟩
    unfold endH at e
    split at e
    · rename_i v nb na D hq
      split at e
      · exact lift (endH_get q e)
      · rename_i hc
        rw [Tr.get_set] at e
        split at e
        · rename_i hkn
          injection e with e
          subst e
          exact .inr ⟨q, _, Nat.lt_succ_self _, hq, rfl, hkn.symm, by simpa [pendB] using hc⟩
        · exact lift (endH_get q e)
    · exact lift (endH_get q e)
section
variable {E : Env} (h : EnvOk E) {rs : Tr Rec} {efs : List Nat} {nxE : Nat} (F : Fx E E.ops.size rs efs nxE) {r0 : Nm} {w0 : World} {listed : Array Bool} {a : Act} {w : World} {r : Nm} {eD later : List Nat}
  (I : Inv E rs efs r0 w0 listed a w r eD later) (hall : ∀ j, j < E.ops.size → Li listed j)
include h F I hall
theorem end_efs : efs = eD := by
  have hl : later = [] := by
    cases later with
    | nil => rfl
    | cons e l => exact absurd (hall e (F.eff e (by rw [I.efs_eq]; simp)).1) (I.later_out e (by simp))
  rw [I.efs_eq, hl]; rfl
theorem end_at {k : Nat} {B : Bk} (e : (endH E rs (lastE efs) E.ops.size).get k = some B) :
    ∃ b sz, r k = some (b, sz) ∧ BR r w B b sz ∧ (((E.after rs (lastE eD)).get k = some B) ∨ ∃ q S, Li listed q ∧ rs.get q = some S ∧ S.k = .alloc B ∧ S.nb = k ∧ pendB E (lastE eD) q) := by
  rw [end_efs h F I hall] at e
  rcases endH_get _ e with e1 | ⟨q, S, hq, hS, hD, rfl, hp⟩
  · obtain ⟨b, sz, h1, h2⟩ := I.hp.at_ k B e1
    exact ⟨b, sz, cut_le_self _ _ _ _ h1, h2.mono (cut_le_self _ _), .inl e1⟩
  · obtain ⟨b, sz, h1, h2, h3, h4⟩ := I.pend q S B (hall q hq) hS hD hp
    exact ⟨b, sz, h1, h2.mono (cut_le_self _ _), .inr ⟨q, S, hall q hq, hS, hD, rfl, hp⟩⟩
theorem end_rel : RelH r (endH E rs (lastE efs) E.ops.size) w := by
  refine ⟨fun k B hk => ?_, fun k j B D b s t hk hj rk rj => ?_⟩
  · obtain ⟨b, sz, h1, h2, _⟩ := end_at h F I hall hk
    exact ⟨b, sz, h1, h2⟩
  · obtain ⟨b1, s1, h1, _, k1⟩ := end_at h F I hall hk
    obtain ⟨b2, s2, h2, _, k2⟩ := end_at h F I hall hj
    rcases k1 with k1 | ⟨q, S, hl, hS, hD, rfl, hp⟩ <;> rcases k2 with k2 | ⟨q', S', hl', hS', hD', rfl, hp'⟩
    · obtain ⟨b1, s1, g1, _⟩ := I.hp.at_ k B k1
      obtain ⟨b2, s2, g2, _⟩ := I.hp.at_ j D k2
      have e1 := cut_le_self _ _ _ _ g1
      have e2 := cut_le_self _ _ _ _ g2
      rw [rk] at e1
      rw [rj] at e2
      injection e1 with e1
      injection e2 with e2
      exact I.hp.inj k j B D b s t k1 k2 (by rw [g1, e1]) (by rw [g2, e2])
    · obtain ⟨b2, s2, p1, _, _, p4⟩ := I.pend q' S' D hl' hS' hD' hp'
      rw [rj] at p1
      injection p1 with p1; injection p1 with p1 _
      subst p1
      exact absurd rk (p4 k B s k1)
    · obtain ⟨b2, s2, p1, _, _, p4⟩ := I.pend q S B hl hS hD hp
      rw [rk] at p1
      injection p1 with p1; injection p1 with p1 _
      subst p1
      exact absurd rj (p4 j D t k2)
    · have := I.pinj q S B q' S' D b s t hl hS hD hp hl' hS' hD' hp' rk rj
      subst this
      rw [hS] at hS'
      injection hS' with hS'
      rw [hS']
theorem end_fr : RelA r (endT rs E.ops.toList 0 E.s0.tm) E.N a := by
  refine ⟨I.asz, I.adf, fun t v hv => ?_⟩
  rcases endT_get _ 0 _ hv with ⟨k, o, R, h1, h2, h3, h4⟩ | ⟨h1, h2⟩
  · have ho : E.ops[k]? = some o := by simpa using h1
    have hk := (Array.getElem?_eq_some_iff.1 ho).1
    rw [Nat.zero_add] at h3
    obtain ⟨u, k1, k2⟩ := I.frD k o R v t (hall k hk) ho h3 h4 h2
    exact ⟨u, k1, k2.mono (cut_le_self _ _)⟩
  · obtain ⟨u, k1, k2⟩ := I.fr0 t v h1 (fun j hj => by
      obtain ⟨o, ho, hd⟩ := h.wr2 t j hj
      exact absurd hd (h2 j o (by simpa using ho)))
    exact ⟨u, k1, k2.mono (cut_le_self _ _)⟩
theorem end_fresh : fresh r nxE := by
  intro k hk
  cases hr : r k with
  | none => rfl
  | some x =>
    rcases I.born k x hr with hb | ⟨j, S, hlj, hS, hb1, hb2⟩
    · have := F.lo; omega
    · have hj : j < E.ops.size := by
        have := I.size
        unfold Li at hlj
        rcases Nat.lt_or_ge j listed.size with h' | h'
        · omega
        · simp [Array.getElem?_eq_none h'] at hlj
      obtain ⟨R', q1, _, _, _, q5⟩ := F.all j _ hj (Array.getElem?_eq_getElem hj)
      rw [hS] at q1
      injection q1 with q1
      subst q1
      omega
theorem end_mv : Mv E.s0.nx r0 E.s0.hp w0 nxE r (endH E rs (lastE efs) E.ops.size) w := by
  refine ⟨I.le0, F.lo, I.low0, end_rel h F I hall, I.os, I.tape, I.output, I.wsz, I.blk, fun k B b s hk hr => ?_⟩
  obtain ⟨b1, s1, h1, _, k1⟩ := end_at h F I hall hk
  rcases k1 with k1 | ⟨q, S, hl, hS, hD, rfl, hp⟩
  · exact I.own k B b s k1 hr
  · obtain ⟨b2, s2, p1, _, p3, _⟩ := I.pend q S B hl hS hD hp
    rw [hr] at p1
    injection p1 with p1; injection p1 with p1 _
    subst p1
    exact .inl p3
end
theorem dstsB_ok {N : Nat} : ∀ (l : List Oper), dstsB N l = true → ∀ (k : Nat) (o : Oper) (d : Nat), l[k]? = some o → o.dst = some d → d < N
  | [], _, k, o, d, hk, _ => by simp at hk
  | o :: l, h, k, o', d, hk, hd => by
    simp only [dstsB, Bool.and_eq_true] at h
    cases k with
    | zero =>
      simp at hk
      subst hk
      have h1 := h.1
      rw [hd] at h1
      simpa using h1
    | succ k => exact dstsB_ok l h.2 k o' d (by simpa using hk) hd
theorem drawR_ok (P : Program) (ext : ExtF) (hext : ExtS P ext) : DrawS P ext (drawR P ext) := by
  intro call hcall ops N s s' e r a w hS Q id hQ
  unfold drawR at e
  split at e
  case isFalse => cases e
  rename_i hc
  simp only [Bool.and_eq_true] at hc
  obtain ⟨hmix, hds⟩ := hc
  split at e
  case h_2 => cases e
  rename_i anc wr hanc hwr
  split at e
  case h_2 => cases e
  rename_i rs efs nx hrun
  split at e
  case isFalse => cases e
  rename_i hst
  injection e with e
  subst e
  generalize hE : (⟨P, ext, call, ops, N, s, anc, wr⟩ : Env) = E at hrun hst
  have e1 : E.P = P := by rw [← hE]
  have e2 : E.ops = ops := by rw [← hE]
  have e3 : E.N = N := by rw [← hE]
  have e4 : E.s0 = s := by rw [← hE]
  have e5 : E.anc = anc := by rw [← hE]
  have e6 : E.wr = wr := by rw [← hE]
  have e7 : E.ext = ext := by rw [← hE]
  have e8 : E.call = call := by rw [← hE]
  have hok : EnvOk E := by
    obtain ⟨_, a2⟩ := ancsB_ok ops.toList 0 .nil anc hanc
    obtain ⟨_, w2, w3⟩ := writersB_ok ops.toList 0 .nil wr hwr
    refine ⟨fun i o ho => ?_, fun i o d ho hd => ?_, fun t j ht => ?_, fun i o d ho hd => ?_⟩
    · rw [e5]
      have := a2 i o (by rw [e2] at ho; simpa using ho)
      simpa using this
    · rw [e6]
      have := w2 i o d (by rw [e2] at ho; simpa using ho) hd
      simpa using this
    · rw [e6] at ht
      rcases w3 t j ht with e | ⟨k, o, rfl, hk, hd⟩
      · cases e
      · exact ⟨o, by rw [e2]; simpa using hk, hd⟩
    · rw [e3]
      exact dstsB_ok _ hds i o d (by rw [e2] at ho; simpa using ho) hd
  have F : Fx E E.ops.size rs efs nx := runD_ok hok E.ops.toList 0 .nil [] s.nx (Nat.zero_le _) (by simp) ⟨fun j o hj => (by omega), fun j k R S h1 h2 => (by omega), fun q hq => by simp at hq, .nil, by rw [e4]; exact Nat.le_refl _⟩ rs efs nx (by rw [e2]; exact hrun)
  have S : StabF E rs efs := fun i o R ho hR hk => by
    have := stableAll_ok ops.toList 0 hst i o R (by rw [e2] at ho; simpa using ho) (by rw [Nat.zero_add]; exact hR) hk
    rw [Nat.zero_add] at this
    exact this
  have hcut : r.cut s.nx = r := by
    funext k
    unfold Nm.cut
    by_cases e : k < s.nx
    · rw [if_pos e]
    · rw [if_neg e]; exact (hS.nx k (by omega)).symm
  have Lno : ∀ j, ¬ Li (Array.replicate ops.size false) j := fun j hl => by
    unfold Li at hl
    simp [Array.getElem?_replicate] at hl
    split at hl <;> cases hl
  have hp1 : RelH r s.hp w.drew := hS.hp.world rfl
  have I0 : Inv E rs efs r w.drew (Array.replicate ops.size false) a w.drew r [] efs := by
    refine ⟨by rw [e2]; simp, fun i o hl => absurd hl (Lno i), by simp, fun e he => by simp at he, fun e _ => Lno e, fun t v hv _ => ?_, fun i o R v t hl => absurd hl (Lno i), by rw [e3]; exact hS.fr.size, hS.fr.defers, ?_,
      fun q R B hl => absurd hl (Lno q), fun q R B q' R' B' b s s' hl => absurd hl (Lno q), fun k x hk => .inl ?_, Nm.le_refl _, fun _ _ => rfl, rfl, rfl, rfl, Nat.le_refl _, fun _ _ _ => rfl, fun k B b t hk hr => .inr ⟨k, B, t, hk, hr⟩⟩
    · rw [e4, hcut]
      rw [e4] at hv
      exact hS.fr.val t v hv
    · show RelH (r.cut E.s0.nx) E.s0.hp w.drew
      rw [e4, hcut]
      exact hp1
    · rw [e4]
      rcases Nat.lt_or_ge k s.nx with e | e
      · exact e
      · rw [hS.nx k e] at hk; cases hk
  refine wp_region_any hmix ?_
  have hfin := any_ok hok F (r0 := r) (w0 := w.drew) (by rw [e1, e7]; exact hext) (by rw [e1, e8]; exact hcall) S (Q := Q) (fun listed a' w' r' eD later I hall => ?_) ops.size _ a w.drew r [] efs I0 (by rw [e2]; exact unl_le _)
  · rw [e1, e2] at hfin
    exact hfin
  · have m := end_mv hok F I hall
    have f := end_fr hok F I hall
    have x := end_fresh hok F I hall
    rw [e4] at m f
    rw [e2] at m f
    rw [e3] at f
    rw [hE] at hQ
    exact hQ r' a' w' m.from_drew ⟨f, m.rel, x⟩
end Go.Proofs.YtgbfbeohmogadaaGreat
