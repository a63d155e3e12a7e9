/- Running closed code: effects in a drawn region. -/
import Derived.Test.YtgbfbeohmogadaaGreatXq22
namespace Go.Proofs.YtgbfbeohmogadaaGreat
open Go.RowKit
set_option linter.unusedVariables false
set_option linter.unusedSectionVars false

/-- what is in the memory ahead of an effect -/
theorem merge_get {E : Env} {rs : Tr Rec} {p : Option Nat} {i k : Nat} {B : Bk} : ∀ (q : Nat), (E.merge rs p i q).get k = some B → (E.after rs p).get k = some B ∨ ∃ j S, j < q ∧ rs.get j = some S ∧ S.k = .alloc B ∧ S.nb = k ∧ E.isAnc j i = true ∧ pendB E p j
  | 0, e => .inl e
  | q + 1, e => by
    have lift : ((E.after rs p).get k = some B ∨ ∃ j S, j < q ∧ rs.get j = some S ∧ S.k = .alloc B ∧ S.nb = k ∧ E.isAnc j i = true ∧ pendB E p j) → ((E.after rs p).get k = some B ∨ ∃ j S, j < q + 1 ∧ rs.get j = some S ∧ S.k = .alloc B ∧ S.nb = k ∧ E.isAnc j i = true ∧ pendB E p j) := fun h => by
      rcases h with h | ⟨j, S, h1, h2⟩
      · exact .inl h
      · exact .inr ⟨j, S, by omega, h2⟩
    unfold Env.merge at e
    split at e
    · rename_i v nb na D hq
      split at e
      · rename_i hc
        simp only [Bool.and_eq_true, Bool.not_eq_true'] at hc
        rw [Tr.get_set] at e
        split at e
        · rename_i hkn
          injection e with e
          subst e
          exact .inr ⟨q, _, Nat.lt_succ_self _, hq, rfl, hkn.symm, hc.1, hc.2⟩
        · exact lift (merge_get q e)
      · exact lift (merge_get q e)
    · exact lift (merge_get q e)
section
variable {E : Env} (h : EnvOk E) {rs : Tr Rec} {efs : List Nat} {nxE : Nat} (F : Fx E E.ops.size rs efs nxE) {r0 : Nm} {w0 : World} {listed : Array Bool} {a : Act} {w : World} {r : Nm} {eD later : List Nat}
  (I : Inv E rs efs r0 w0 listed a w r eD later) {i : Nat} {o : Oper} {R : Rec} (ho : E.ops[i]? = some o) (hR : rs.get i = some R) (hn : ¬ Li listed i) (hed : ∀ e ∈ o.after.toList, Region.binds .any e = true → Li listed e.on)
include h F I ho hR hn hed
/-- behind which effect it stands -/
theorem eff_rest {ha : Hp} (hk : R.k = .eff ha) : (∃ later', later = later' ++ [i]) ∧ (∀ e, lastE eD = some e → E.isAnc e i = true) ∧ opMem E.P E.ext E.call (E.ev rs i) (E.merge rs (lastE eD) i i) R.nb o.op = some (R.v, ha, R.na) := by
  have hi := (Array.getElem?_eq_some_iff.1 ho).1
  obtain ⟨R', q1, q2, q3, q4, q5⟩ := F.all i o hi ho
  rw [hR] at q1
  injection q1 with q1
  subst q1
  unfold OpF at q2
  rw [hk] at q2
  obtain ⟨_, rest, hsuf, hch, hm⟩ := q2
  have hD : ∀ i j, i < E.ops.size → Li listed i → E.isAnc j i = true → Li listed j := fun i j hi hl ha => closed_anc h (D := Li listed) I.clo i _ (Array.getElem?_eq_getElem hi) (I.clo i _ hl (Array.getElem?_eq_getElem hi)) j ha
  have hrest := chain_listed h F hD rest i hsuf (fun j hj => closed_anc h (D := Li listed) I.clo i o ho hed j hj)
  obtain ⟨pre, hpre⟩ := hsuf
  have heq := I.efs_eq
  rw [← hpre] at heq
  have key : ∀ (l m : List Nat), pre ++ i :: rest = l ++ m → (∀ e ∈ l, ¬ Li listed e) → (∀ e ∈ m, Li listed e) → l = pre ++ [i] ∧ m = rest := fun l m e h1 h2 => by
    rcases List.append_eq_append_iff.1 e with ⟨x, e1, e2⟩ | ⟨x, e1, e2⟩
    · cases x with
      | nil =>
        simp at e2
        exact absurd (h2 i (by rw [← e2]; simp)) hn
      | cons y x =>
        simp only [List.cons_append] at e2
        injection e2 with e2 e3
        subst e2
        cases x with
        | nil => exact ⟨e1, by simpa using e3.symm⟩
        | cons z x =>
          have hz : z ∈ rest := by rw [e3]; simp
          exact absurd (hrest z hz) (h1 z (by rw [e1]; simp))
    · exact absurd (h2 i (by rw [e2]; simp)) hn
  obtain ⟨k1, k2⟩ := key later eD heq I.later_out I.eD_in
  subst k2
  exact ⟨⟨pre, k1⟩, hch, hm⟩
theorem pend_nb {q : Nat} {S : Rec} {D : Bk} (hl : Li listed q) (hS : rs.get q = some S) (hD : S.k = .alloc D) : S.na = S.nb + 1 := by
  have hq : q < E.ops.size := by
    have := I.size
    unfold Li at hl
    rcases Nat.lt_or_ge q listed.size with h' | h'
    · omega
    · simp [Array.getElem?_eq_none h'] at hl
  obtain ⟨R', q1, q2, _⟩ := F.all q _ hq (Array.getElem?_eq_getElem hq)
  rw [hS] at q1
  injection q1 with q1
  subst q1
  unfold OpF at q2
  rw [hD] at q2
  obtain ⟨_, m, _, _, e⟩ := q2
  exact e
theorem naOf_le (hch : ∀ e, lastE eD = some e → E.isAnc e i = true) : naOf E rs (lastE eD) ≤ R.nb := by
  have hi := (Array.getElem?_eq_some_iff.1 ho).1
  obtain ⟨R', q1, q2, q3, q4, q5⟩ := F.all i o hi ho
  rw [hR] at q1
  injection q1 with q1
  subst q1
  cases hl : lastE eD with
  | none => exact q3
  | some e =>
    have hlt := isAnc_lt h i e hi (hch e hl)
    obtain ⟨S, g1, _⟩ := F.all e _ (by omega) (Array.getElem?_eq_getElem (by omega : e < E.ops.size))
    show (match rs.get e with | some R => R.na | none => 0) ≤ R.nb
    rw [g1]
    exact F.ord e i S R hlt hi g1 hR
/-- where the blocks ahead of the effect are -/
theorem merge_at (hch : ∀ e, lastE eD = some e → E.isAnc e i = true) {k : Nat} {B : Bk} (e : (E.merge rs (lastE eD) i i).get k = some B) :
    ∃ b sz, (r.cut R.nb) k = some (b, sz) ∧ BR (r.cut R.nb) w B b sz ∧ (((E.after rs (lastE eD)).get k = some B) ∨ ∃ q S, Li listed q ∧ rs.get q = some S ∧ S.k = .alloc B ∧ S.nb = k ∧ E.isAnc q i = true ∧ pendB E (lastE eD) q ∧ r S.nb = some (b, sz)) := by
  have hi := (Array.getElem?_eq_some_iff.1 ho).1
  have hle := naOf_le h F I ho hR hn hed hch
  rcases merge_get i e with e1 | ⟨q, S, hq, hS, hD, rfl, hanc, hp⟩
  · obtain ⟨b, sz, h1, h2⟩ := I.hp.at_ k B e1
    have hc := cut_le (Nm.le_refl r) hle
    exact ⟨b, sz, hc _ _ h1, h2.mono hc, .inl e1⟩
  · have hl := closed_anc h (D := Li listed) I.clo i o ho hed q hanc
    obtain ⟨b, sz, h1, h2, h3, h4⟩ := I.pend q S B hl hS hD hp
    have hsn := F.ord q i S R hq hi hS hR
    have hna := pend_nb h F I ho hR hn hed hl hS hD
    exact ⟨b, sz, cut_at h1 (by simp [Nat.blt_eq]; omega), h2.mono (cut_le (Nm.le_refl r) hsn), .inr ⟨q, S, hl, hS, hD, rfl, hanc, hp, h1⟩⟩
theorem merge_ok (hch : ∀ e, lastE eD = some e → E.isAnc e i = true) : RelH (r.cut R.nb) (E.merge rs (lastE eD) i i) w := by
  refine ⟨fun k B hk => ?_, fun k j B D b s t hk hj rk rj => ?_⟩
  · obtain ⟨b, sz, h1, h2, _⟩ := merge_at h F I ho hR hn hed hch hk
    exact ⟨b, sz, h1, h2⟩
  · obtain ⟨b1, s1, h1, _, k1⟩ := merge_at h F I ho hR hn hed hch hk
    obtain ⟨b2, s2, h2, _, k2⟩ := merge_at h F I ho hR hn hed hch hj
    rw [rk] at h1
    rw [rj] at h2
    injection h1 with h1; injection h1 with h1 h1'
    injection h2 with h2; injection h2 with h2 h2'
    subst h1 h2 h1' h2'
    have rk' := cut_le_self _ _ _ _ rk
    have rj' := cut_le_self _ _ _ _ rj
    rcases k1 with k1 | ⟨q, S, hl, hS, hD, rfl, _, hp, h3⟩ <;> rcases k2 with k2 | ⟨q', S', hl', hS', hD', rfl, _, hp', h3'⟩
    · obtain ⟨b1, s1, g1, _⟩ := I.hp.at_ k B k1
      obtain ⟨b2, s2, g2, _⟩ := I.hp.at_ j D k2
      have e1 := cut_le_self _ _ _ _ g1
      have e2 := cut_le_self _ _ _ _ g2
      rw [rk'] at e1
      rw [rj'] at e2
      injection e1 with e1
      injection e2 with e2
      exact I.hp.inj k j B D b s t k1 k2 (by rw [g1, e1]) (by rw [g2, e2])
    · obtain ⟨b2, s2, p1, _, _, p4⟩ := I.pend q' S' D hl' hS' hD' hp'
      rw [rj'] at p1
      injection p1 with p1; injection p1 with p1 _
      subst p1
      exact absurd rk' (p4 k B s k1)
    · obtain ⟨b2, s2, p1, _, _, p4⟩ := I.pend q S B hl hS hD hp
      rw [rk'] at p1
      injection p1 with p1; injection p1 with p1 _
      subst p1
      exact absurd rj' (p4 j D t k2)
    · have := I.pinj q S B q' S' D b s t hl hS hD hp hl' hS' hD' hp' rk' rj'
      subst this
      rw [hS] at hS'
      injection hS' with hS'
      rw [hS']
def joinN (n : Nat) (s r : Nm) : Nm := fun k => if k < n then s k else r k
/-- an effect -/
theorem Inv.eff {ha : Hp} (hk : R.k = .eff ha) {later' : List Nat} (hlat : later = later' ++ [i]) (hch : ∀ e, lastE eD = some e → E.isAnc e i = true) {s : Nm} {w' : World} (hmv : Mv R.nb (r.cut R.nb) (E.merge rs (lastE eD) i i) w R.na s ha w') (hfr : fresh s R.na) (u : Value)
    (hu : ∀ v, R.v = some v → VR s v u) : Inv E rs efs r0 w0 (listed.setIfInBounds i true) (a.put o.dst u) w' (joinN R.na s r) (i :: eD) later' := by
  have hi := (Array.getElem?_eq_some_iff.1 ho).1
  have hil : i < listed.size := by rw [I.size]; exact hi
  have hcut : (joinN R.na s r).cut R.na = s := by
    funext k
    unfold Nm.cut joinN
    by_cases e : k < R.na
    · rw [if_pos e, if_pos e]
    · rw [if_neg e]; exact (hfr k (by omega)).symm
  have low : ∀ k, k < R.nb → s k = r k := fun k hk => by rw [hmv.low k hk]; unfold Nm.cut; rw [if_pos hk]
  have hle : r.le (joinN R.na s r) := fun k x hx => by
    unfold joinN
    by_cases e : k < R.na
    · rw [if_pos e]
      by_cases e2 : k < R.nb
      · rw [low k e2]; exact hx
      · rw [nb_fresh h F I ho hR hn hed (by omega) k (by omega) e] at hx; cases hx
    · rw [if_neg e]; exact hx
  obtain ⟨f1, f2, f3, f4⟩ := put_frame h F I ho hR hn hed hle (fun _ _ _ _ _ _ => trivial) u (fun v hv => by rw [hcut]; exact hu v hv)
  have recI : ∀ {S : Rec}, rs.get i = some S → S = R := fun {S} hS => by rw [hR] at hS; injection hS with hS; exact hS.symm
  have haf : E.after rs (lastE (i :: eD)) = ha := by
    show (match rs.get i with | some ⟨_, _, _, .eff ha⟩ => ha | _ => .nil) = ha
    rw [hR]
    obtain ⟨v, nb, na, kd⟩ := R
    simp only at hk
    subst hk
    rfl
  have hnaOf : naOf E rs (lastE (i :: eD)) = R.na := by
    show (match rs.get i with | some R => R.na | none => 0) = R.na
    rw [hR]
  -- a block that waits is no block of the memory ahead
  have notin : ∀ q S D b sz, Li listed q → rs.get q = some S → S.k = .alloc D → pendB E (lastE eD) q → E.isAnc q i = false → r S.nb = some (b, sz) → ∀ k B t, (E.merge rs (lastE eD) i i).get k = some B → (r.cut R.nb) k ≠ some (b, t) := fun q S D b sz hl hS hD hp hna hb k B t hkB hkt => by
    obtain ⟨b', s', h1, _, k1⟩ := merge_at h F I ho hR hn hed hch hkB
    rw [hkt] at h1
    injection h1 with h1; injection h1 with h1 h1'
    subst h1 h1'
    have hkt' := cut_le_self _ _ _ _ hkt
    rcases k1 with k1 | ⟨q', S', hl', hS', hD', rfl, hanc, hp', h3'⟩
    · obtain ⟨b2, s2, p1, _, _, p4⟩ := I.pend q S D hl hS hD hp
      rw [hb] at p1
      injection p1 with p1; injection p1 with p1 _
      subst p1
      exact p4 k B t k1 hkt'
    · have := I.pinj q S D q' S' B b sz t hl hS hD hp hl' hS' hD' hp' hb hkt'
      subst this
      rw [hna] at hanc; cases hanc
  have pold : ∀ q S D, Li (listed.setIfInBounds i true) q → rs.get q = some S → S.k = .alloc D → pendB E (lastE (i :: eD)) q → Li listed q ∧ pendB E (lastE eD) q ∧ E.isAnc q i = false := fun q S D hl hS hD hp => by
    have hqi : q ≠ i := by
      rintro rfl
      rw [recI hS, hk] at hD
      cases hD
    have hp' : E.isAnc q i = false := hp
    refine ⟨((Li_set hil q).1 hl).resolve_left hqi, ?_, hp'⟩
    unfold pendB
    cases hl : lastE eD with
    | none => rfl
    | some e =>
      show E.isAnc q e = false
      cases hc : E.isAnc q e with
      | false => rfl
      | true => rw [isAnc_trans h i e q hi (hch e hl) hc] at hp'; cases hp'
  have inS : ∀ {k : Nat} {D : Bk} {b t : Nat}, ha.get k = some D → (joinN R.na s r) k = some (b, t) → s k = some (b, t) := fun {k D b t} hkD hb => by
    obtain ⟨b', s', h1, _⟩ := hmv.rel.at_ k D hkD
    have hlt : k < R.na := by
      rcases Nat.lt_or_ge k R.na with e | e
      · exact e
      · rw [hfr k e] at h1; cases h1
    unfold joinN at hb
    rw [if_pos hlt] at hb
    exact hb
  refine ⟨by simpa using I.size, clo_set h F I ho hR hn hed, by rw [I.efs_eq, hlat]; simp, fun e he => ?_, fun e he hl => ?_, f1, f2, f3, f4,
    by rw [haf, hnaOf, hcut]; exact hmv.rel, fun q S D hl hS hD hp => ?_, fun q S D q' S' D' b s1 s2 hl hS hD hp hl' hS' hD' hp' hb hb' => ?_, fun k x hk' => ?_, Nm.le_trans I.le0 hle, fun k hk' => ?_, hmv.os.trans I.os, hmv.tape.trans I.tape, hmv.output.trans I.output,
    Nat.le_trans I.wsz hmv.size, fun b hb hno => ?_, fun k D b t hk' hr => ?_⟩
  · rcases List.mem_cons.1 he with rfl | he
    · exact (Li_set hil _).2 (.inl rfl)
    · exact (Li_set hil e).2 (.inr (I.eD_in e he))
  · have hel : e ∈ later := by rw [hlat]; exact List.mem_append_left _ he
    rcases (Li_set hil e).1 hl with rfl | hl
    · have hd := F.dec
      rw [I.efs_eq, hlat] at hd
      have := (List.pairwise_append.1 (List.pairwise_append.1 hd).1).2.2 e he e (by simp)
      omega
    · exact I.later_out e hel hl
  · obtain ⟨hl', hp', hna⟩ := pold q S D hl hS hD hp
    obtain ⟨b, sz, p1, p2, p3, p4⟩ := I.pend q S D hl' hS hD hp'
    have hno := notin q S D b sz hl' hS hD hp' hna p1
    refine ⟨b, sz, hle _ _ p1, (p2.mono (cut_le hle (Nat.le_refl _))).keep (hmv.block b p2.lt hno), p3, fun k B t hkB hr => ?_⟩
    rw [haf] at hkB
    rcases hmv.own k B b t hkB (inS hkB hr) with e | ⟨j, B', t', e1, e2⟩
    · have := p2.lt; omega
    · exact hno j B' t' e1 e2
  · obtain ⟨g1, g2, g3⟩ := pold q S D hl hS hD hp
    obtain ⟨g1', g2', g3'⟩ := pold q' S' D' hl' hS' hD' hp'
    obtain ⟨c, sz, p1, _⟩ := I.pend q S D g1 hS hD g2
    obtain ⟨c', sz', p1', _⟩ := I.pend q' S' D' g1' hS' hD' g2'
    rw [hle _ _ p1] at hb
    rw [hle _ _ p1'] at hb'
    injection hb with hb; injection hb with e1 _
    injection hb' with hb'; injection hb' with e2 _
    exact I.pinj q S D q' S' D' b sz sz' g1 hS hD g2 g1' hS' hD' g2' (by rw [p1, e1]) (by rw [p1', e2])
  · unfold joinN at hk'
    by_cases e : k < R.na
    · rw [if_pos e] at hk'
      by_cases e2 : k < R.nb
      · rw [low k e2] at hk'
        rcases I.born k x hk' with hb | ⟨j, S, hl, hS, hb⟩
        · exact .inl hb
        · exact .inr ⟨j, S, (Li_set hil j).2 (.inr hl), hS, hb⟩
      · exact .inr ⟨i, R, (Li_set hil i).2 (.inl rfl), hR, by omega, e⟩
    · rw [if_neg e] at hk'
      rcases I.born k x hk' with hb | ⟨j, S, hl, hS, hb⟩
      · exact .inl hb
      · exact .inr ⟨j, S, (Li_set hil j).2 (.inr hl), hS, hb⟩
  · obtain ⟨R', q1, q2, q3, q4, q5⟩ := F.all i o hi ho
    rw [hR] at q1
    injection q1 with q1
    subst q1
    unfold joinN
    rw [if_pos (by omega), low k (by omega)]
    exact I.low0 k hk'
  · refine (hmv.block b (Nat.lt_of_lt_of_le hb I.wsz) fun k B t hkB hkt => ?_).trans (I.blk b hb hno)
    obtain ⟨b', s', h1, _, k1⟩ := merge_at h F I ho hR hn hed hch hkB
    rw [hkt] at h1
    injection h1 with h1; injection h1 with h1 h1'
    subst h1 h1'
    have hkt' := cut_le_self _ _ _ _ hkt
    rcases k1 with k1 | ⟨q', S', hl', hS', hD', rfl, hanc, hp', h3'⟩
    · rcases I.own k B b t k1 hkt' with e | ⟨j, D, t', e1, e2⟩
      · omega
      · exact hno j D t' e1 e2
    · obtain ⟨b2, s2, p1, _, p3, _⟩ := I.pend q' S' B hl' hS' hD' hp'
      rw [hkt'] at p1
      injection p1 with p1; injection p1 with p1 _
      subst p1
      omega
  · rw [haf] at hk'
    rcases hmv.own k D b t hk' (inS hk' hr) with e | ⟨j, B, t', e1, e2⟩
    · exact .inl (Nat.le_trans I.wsz e)
    · obtain ⟨b', s', h1, _, k1⟩ := merge_at h F I ho hR hn hed hch e1
      rw [e2] at h1
      injection h1 with h1; injection h1 with h1 h1'
      subst h1 h1'
      have hkt' := cut_le_self _ _ _ _ e2
      rcases k1 with k1 | ⟨q', S', hl', hS', hD', rfl, hanc, hp', h3'⟩
      · exact I.own j B b t' k1 hkt'
      · obtain ⟨b2, s2, p1, _, p3, _⟩ := I.pend q' S' B hl' hS' hD' hp'
        rw [hkt'] at p1
        injection p1 with p1; injection p1 with p1 _
        subst p1
        exact .inl p3
end
end Go.Proofs.YtgbfbeohmogadaaGreat
