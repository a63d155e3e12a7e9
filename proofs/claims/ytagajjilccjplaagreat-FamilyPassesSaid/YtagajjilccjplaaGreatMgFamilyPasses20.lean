/- Joined: Xq21, Xq22, Xq23, Xq24, Xq25, Xq26, Xq27, Xq28. -/
import Derived.Laws.LoneSync
import Derived.Test.YtagajjilccjplaaGreatMgFamilyPasses19
section
set_option linter.unusedVariables false
set_option linter.unusedSimpArgs false
/- Running closed code: loads and what is made, in a drawn region. -/
namespace Go.Proofs.YtagajjilccjplaaGreat
open Go.RowKit
set_option linter.unusedVariables false
set_option linter.unusedSectionVars false

section
variable {r : Nm} {n : Nat}
theorem blt_of {k n : Nat} (h : Nat.blt k n = true) : k < n := by simpa [Nat.blt_eq] using h
theorem cut_at {k : Nat} {x : Nat × Nat} (h : r k = some x) (hk : Nat.blt k n = true) : (r.cut n) k = some x := by
  unfold Nm.cut
  rw [if_pos (blt_of hk)]
  exact h
theorem AR.cut {l : List (Nat × Nat)} {us : List Value} (h : AR r l us) : bdAs n l = true → AR (r.cut n) l us := by
  induction h with
  | nil => intro _; exact .nil
  | cons e _ ih =>
    intro hb
    simp only [bdAs, Bool.and_eq_true] at hb
    exact .cons (cut_at e hb.1) (ih hb.2)
theorem CR.cut {c : C} {v : Value} (h : CR r c v) (hb : bdC n c = true) : CR (r.cut n) c v := by
  induction h with
  | b => exact .b _
  | i => exact .i _ _
  | s => exact .s _
  | p0 => exact .p0
  | p e => exact .p (cut_at e hb)
  | l0 => exact .l0 _ _
  | l m c e => exact .l m c (cut_at e hb)
  | u m c es e h1 h2 h3 => exact .u m c es (cut_at e hb) h1 h2 h3
  | f fn ha hc =>
    simp only [bdC, Bool.and_eq_true] at hb
    exact .f fn (ha.cut hb.1) (hc.cut hb.2)
  | nf => exact .nf
  | ni => exact .ni
  | m0 => exact .m0
  | m e => exact .m (cut_at e hb)
  | o e hf => exact .o (cut_at e hb) hf
  | d t _ ih => exact .d t (ih hb)
  | da t _ ih => exact .da t (ih hb)
theorem CsR.cut {cs : List C} {vs : List Value} (h : CsR r cs vs) : bdCs n cs = true → CsR (r.cut n) cs vs := by
  induction h with
  | nil => intro _; exact .nil
  | cons e _ ih =>
    intro hb
    simp only [bdCs, Bool.and_eq_true] at hb
    exact .cons (e.cut hb.1) (ih hb.2)
theorem WR.cut {x : Wv} {v : Value} (h : WR r x v) (hb : bdW n x = true) : WR (r.cut n) x v := by
  cases h with
  | c e => exact .c (e.cut hb)
  | a e => exact .a (e.cut hb)
end
/-- what is known of the loads -/
def StabF (E : Env) (rs : Tr Rec) (efs : List Nat) : Prop := ∀ i o R, E.ops[i]? = some o → rs.get i = some R → R.k = .load →
  ∃ t x k off y, o.op = .load t x ∧ E.ev rs i x = some (.w (.c (.p (some (k, off))))) ∧ R.v = some (.w y) ∧ bdW R.nb y = true ∧ E.stable rs i k off t y efs = true
theorem stableAll_ok {E : Env} {rs : Tr Rec} {efs : List Nat} : ∀ (l : List Oper) (i : Nat), E.stableAll rs efs l i = true → ∀ k o R, l[k]? = some o → rs.get (i + k) = some R → R.k = .load →
    ∃ t x n off y, o.op = .load t x ∧ E.ev rs (i + k) x = some (.w (.c (.p (some (n, off))))) ∧ R.v = some (.w y) ∧ bdW R.nb y = true ∧ E.stable rs (i + k) n off t y efs = true
  | [], i, h, k, o, R, hk, _, _ => by simp at hk
  | o :: l, i, h, k, o', R, hk, hR, hL => by
    unfold Env.stableAll at h
    simp only [Bool.and_eq_true] at h
    cases k with
    | zero =>
      simp at hk
      subst hk
      rw [Nat.add_zero] at hR ⊢
      have h1 := h.1
      rw [hR] at h1
      obtain ⟨v, nb, na, kd⟩ := R
      simp only at hL
      subst hL
      split at h1
      · rename_i y nb' na' heq
        injection heq with heq
        injection heq with q1 q2 q3 q4
        subst q1 q2
        simp only [Bool.and_eq_true] at h1
        obtain ⟨hb, h1⟩ := h1
        split at h1
        · rename_i t x hop
          split at h1
          · rename_i n off hx
            exact ⟨t, x, n, off, y, hop, hx, rfl, hb, h1⟩
          · cases h1
        · cases h1
      · cases h1
      · rename_i _ hne
        exact absurd rfl (hne _ _ _)
    | succ k =>
      have := stableAll_ok l (i + 1) h.2 k o' R (by simpa using hk) (by rw [show i + 1 + k = i + (k + 1) by omega]; exact hR) hL
      rw [show i + (k + 1) = i + 1 + k by omega]
      exact this
theorem stable_at {E : Env} {rs : Tr Rec} {i k off t : Nat} {y : Wv} : ∀ (later eD : List Nat), E.stable rs i k off t y (later ++ eD) = true → (∀ e ∈ later, E.isAnc e i = false) → (∀ e, lastE eD = some e → E.isAnc i e = false) →
    ∃ B, E.find rs (lastE eD) i k i = some B ∧ opLoadB E.P B t off = some y
  | [], [], h, _, _ => by
    simp only [List.append_nil, Env.stable] at h
    split at h
    · rename_i B hB
      split at h
      · rename_i z hz; rw [eqWv_ok h] at hz; exact ⟨B, hB, hz⟩
      · cases h
    · cases h
  | [], e :: eD, h, _, h2 => by
    simp only [List.nil_append, Env.stable, Bool.and_eq_true, Bool.or_eq_true] at h
    rcases h.1 with h1 | h1
    · rw [h2 e rfl] at h1; cases h1
    · split at h1
      · rename_i B hB
        split at h1
        · rename_i z hz; rw [eqWv_ok h1] at hz; exact ⟨B, hB, hz⟩
        · cases h1
      · cases h1
  | e :: later, eD, h, h1, h2 => by
    simp only [List.cons_append, Env.stable, Bool.and_eq_true, Bool.or_eq_true] at h
    rcases h.2 with h3 | h3
    · rw [h1 e (by simp)] at h3; cases h3
    · exact stable_at later eD h3 (fun q hq => h1 q (by simp [hq])) h2
section
variable {E : Env} (h : EnvOk E) {rs : Tr Rec} {efs : List Nat} {nxE : Nat} (F : FxQ E E.ops.size rs efs nxE) {r0 : Nm} {w0 : World} {listed : Array Bool} {a : Act} {w : World} {r : Nm} {eD later : List Nat}
  (I : Inv E rs efs r0 w0 listed a w r eD later) {i : Nat} {o : Oper} {R : Rec} (ho : E.ops[i]? = some o) (hR : rs.get i = some R) (hn : ¬ Li listed i) (hed : ∀ e ∈ o.after.toList, Region.binds .any e = true → Li listed e.on)
include h F I ho hR hn hed
/-- a block that a load finds is there -/
theorem find_ok {k : Nat} {B : Bk} : ∀ (q : Nat), E.find rs (lastE eD) i k q = some B → ∃ b sz, r k = some (b, sz) ∧ BR r w B b sz
  | 0, e => by
    unfold Env.find at e
    obtain ⟨b, sz, h1, h2⟩ := I.hp.at_ k B e
    exact ⟨b, sz, cut_le_self _ _ _ _ h1, h2.mono (cut_le_self _ _)⟩
  | q + 1, e => by
    unfold Env.find at e
    split at e
    · rename_i B' hB'
      injection e with e
      subst e
      obtain ⟨b, sz, h1, h2⟩ := I.hp.at_ k _ hB'
      exact ⟨b, sz, cut_le_self _ _ _ _ h1, h2.mono (cut_le_self _ _)⟩
    · split at e
      · rename_i v nb na B' hq
        split at e
        · rename_i hc
          injection e with e
          subst e
          obtain ⟨rfl, ha, hp⟩ := hc
          have hlq := closed_anc h (D := Li listed) I.clo i o ho hed q ha
          obtain ⟨b, sz, h1, h2, _⟩ := I.pend q _ B' hlq hq rfl hp
          exact ⟨b, sz, h1, h2.mono (cut_le_self _ _)⟩
        · exact find_ok q e
      · exact find_ok q e
theorem load_ok (S : StabF E rs efs) (hk : R.k = .load) : ∃ t x u, o.op = .load t x ∧ (∀ v, R.v = some v → VR (r.cut R.na) v u) ∧ (execOp a.eval o).run E.P w = .ok (.value u) w := by
  have hi := (Array.getElem?_eq_some_iff.1 ho).1
  obtain ⟨t, x, k, off, y, hop, hx, hv, hb, hst⟩ := S i o R ho hR hk
  rw [I.efs_eq] at hst
  obtain ⟨B, hB, hy⟩ := stable_at later eD hst (fun e he => by
    cases hc : E.isAnc e i with
    | false => rfl
    | true => exact absurd (closed_anc h (D := Li listed) I.clo i o ho hed e hc) (I.later_out e he)) (fun e he => by
    cases hc : E.isAnc i e with
    | false => rfl
    | true =>
      have hle : Li listed e := I.eD_in e (by cases eD with | nil => cases he | cons q l => injection he with he; subst he; simp)
      have hes : e < E.ops.size := (F.eff e (by rw [I.efs_eq]; refine List.mem_append_right _ ?_; cases eD with | nil => cases he | cons q l => injection he with he; subst he; simp)).1
      have hoe : E.ops[e]? = some E.ops[e] := Array.getElem?_eq_getElem hes
      exact absurd (closed_anc h (D := Li listed) I.clo e _ hoe (I.clo e _ hle hoe) i hc) hn)
  obtain ⟨b, sz, rk, hBR⟩ := find_ok h F I ho hR hn hed i hB
  obtain ⟨u, hu, hrun⟩ := opLoadB_ok (P := E.P) hBR hy
  have hxv := ev_ok h F I ho hR hn hed hx
  have hp : a.eval x = ptrOf b off := by
    generalize a.eval x = z at hxv
    cases hxv with | w hxv => cases hxv with | c hxv => cases hxv with | p rk' =>
      have := cut_le_self _ _ _ _ rk'
      rw [rk] at this; injection this with this; injection this with e1 e2; subst e1; rfl
  obtain ⟨R', q1, q2, q3, q4, q5⟩ := F.all i o hi ho
  rw [hR] at q1
  injection q1 with q1
  subst q1
  refine ⟨t, x, u, hop, fun v hv' => ?_, ?_⟩
  · rw [hv] at hv'
    injection hv' with hv'
    subst hv'
    exact .w ((hu.cut hb).mono (cut_le (Nm.le_refl r) q4))
  · unfold execOp
    rw [hop]
    simp only [Sem.run_bind, hp, hrun, Result.andThen_ok, Sem.run_pure]
end
end Go.Proofs.YtagajjilccjplaaGreat
end
section
set_option linter.unusedVariables false
set_option linter.unusedSimpArgs false
/- Running closed code: what is made, and effects, in a drawn region. -/
namespace Go.Proofs.YtagajjilccjplaaGreat
open Go.RowKit
set_option linter.unusedVariables false
set_option linter.unusedSectionVars false

theorem edgesB_sup {anc : Tr Nat} {i : Nat} : ∀ (l : List Edge) (a : Nat), edgesB l anc i = some a → ∀ e ∈ l, Region.binds .any e = true → a.testBit e.on = true ∧ ∀ b, anc.get e.on = some b → ∀ j, b.testBit j = true → a.testBit j = true
  | [], a, h, e, he, _ => by simp at he
  | e0 :: l, a, h, e, he, hb => by
    unfold edgesB at h
    split at h
    · cases h
    · rename_i s hs
      split at h
      · rename_i hb0
        split at h
        · rename_i hlt
          split at h
          · rename_i b0 hbb
            injection h with h
            subst h
            have tb : ∀ j, Nat.testBit (Nat.lor (Nat.lor s (Nat.shiftLeft 1 e0.on)) b0) j = (s.testBit j || (1 <<< e0.on).testBit j || b0.testBit j) := fun j => by
              show ((s ||| (1 <<< e0.on)) ||| b0).testBit j = _
              rw [Nat.testBit_or, Nat.testBit_or]
            rcases List.mem_cons.1 he with rfl | he
            · refine ⟨?_, fun b hb2 j hj => ?_⟩
              · rw [tb, Nat.testBit_shiftLeft]; simp
              · rw [hbb] at hb2; injection hb2 with hb2; subst hb2; rw [tb, hj]; simp
            · obtain ⟨h1, h2⟩ := edgesB_sup l s hs e he hb
              refine ⟨by rw [tb, h1]; simp, fun b hb2 j hj => ?_⟩
              rw [tb, h2 b hb2 j hj]; simp
          · cases h
        · cases h
      · rename_i hb0
        injection h with h
        subst h
        rcases List.mem_cons.1 he with rfl | he
        · exact absurd hb hb0
        · exact edgesB_sup l s hs e he hb
section
variable {E : Env} (h : EnvOk E)
include h
theorem isAnc_trans : ∀ (i j k : Nat), i < E.ops.size → E.isAnc j i = true → E.isAnc k j = true → E.isAnc k i = true := by
  intro i
  induction i using Nat.strongRecOn with
  | _ i ih =>
    intro j k hi hj hk
    obtain ⟨o, a, ho, ha, hb, hjb⟩ := isAnc_def h hj hi
    obtain ⟨ed, hmem, hbind, hlt, hx⟩ := edgesB_ok _ _ hb j hjb
    obtain ⟨_, h2⟩ := edgesB_sup _ _ hb ed hmem hbind
    have key : E.isAnc k ed.on = true := by
      rcases hx with rfl | ⟨b, hbb, hbj⟩
      · exact hk
      · exact ih ed.on hlt j k (by omega) (by unfold Env.isAnc; rw [hbb]; exact hbj) hk
    have key2 := key
    unfold Env.isAnc at key2
    split at key2
    · rename_i b hbb
      unfold Env.isAnc
      rw [ha]
      exact h2 b hbb k key2
    · cases key2
variable {n : Nat} {rs : Tr Rec} {efs : List Nat} {nx : Nat} (F : FxQ E E.ops.size rs efs nx)
include F
theorem suffix_uniq {e : Nat} {l l' : List Nat} (h1 : (e :: l) <:+ efs) (h2 : (e :: l') <:+ efs) : l = l' := by
  have nd : ∀ {x y : List Nat}, (e :: x) <:+ efs → (e :: y) <:+ (e :: x) → x = y := fun {x y} hx hy => by
    rcases List.suffix_cons_iff.1 hy with e1 | e1
    · injection e1 with _ e1; exact e1.symm
    · have hp : List.Pairwise (· > ·) (e :: x) := F.dec.sublist hx.sublist
      have hm : e ∈ x := e1.subset (by simp)
      exact absurd ((List.pairwise_cons.1 hp).1 e hm) (by omega)
  rcases List.suffix_or_suffix_of_suffix h1 h2 with k | k
  · exact (nd h2 k).symm
  · exact nd h1 k
theorem eff_chain {e : Nat} {l : List Nat} (hs : (e :: l) <:+ efs) : ∀ x, lastE l = some x → E.isAnc x e = true := by
  obtain ⟨hlt, R, ha, hR, hk⟩ := F.eff e (hs.subset (by simp))
  obtain ⟨R', q1, q2, _⟩ := F.all e _ hlt (Array.getElem?_eq_getElem hlt)
  rw [hR] at q1
  injection q1 with q1
  subst q1
  unfold OpF at q2
  rw [hk] at q2
  obtain ⟨_, rest, k2, k3, _⟩ := q2
  rw [suffix_uniq h F hs k2]
  exact k3
theorem chain_listed {D : Nat → Prop} (hD : ∀ i j, i < E.ops.size → D i → E.isAnc j i = true → D j) : ∀ (l : List Nat) (e : Nat), (e :: l) <:+ efs → (∀ j, E.isAnc j e = true → D j) → ∀ x ∈ l, D x
  | [], e, _, _, x, hx => by simp at hx
  | y :: l, e, hs, ha, x, hx => by
    have hy := ha y (eff_chain h F hs y rfl)
    have hs' : (y :: l) <:+ efs := (List.suffix_cons e _).trans hs
    rcases List.mem_cons.1 hx with rfl | hx
    · exact hy
    · exact chain_listed hD l y hs' (fun j hj => hD y j (F.eff y (hs'.subset (by simp))).1 hy hj) x hx
end
theorem RelH.keepW {r : Nm} {H : Hp} {w w' : World} (h : RelH r H w) (k : ∀ j B b s, H.get j = some B → r j = some (b, s) → w'.heap[b]? = w.heap[b]?) : RelH r H w' := by
  refine ⟨fun j D hj => ?_, h.inj⟩
  obtain ⟨b, sz, h1, h2⟩ := h.at_ j D hj
  exact ⟨b, sz, h1, h2.keep (k j D b sz hj h1)⟩
section
variable {E : Env} (h : EnvOk E) {rs : Tr Rec} {efs : List Nat} {nxE : Nat} (F : FxQ E E.ops.size rs efs nxE) {r0 : Nm} {w0 : World} {listed : Array Bool} {a : Act} {w : World} {r : Nm} {eD later : List Nat}
  (I : Inv E rs efs r0 w0 listed a w r eD later) {i : Nat} {o : Oper} {R : Rec} (ho : E.ops[i]? = some o) (hR : rs.get i = some R) (hn : ¬ Li listed i) (hed : ∀ e ∈ o.after.toList, Region.binds .any e = true → Li listed e.on)
include h F I ho hR hn hed
theorem after_at {k : Nat} {B : Bk} (e : (E.after rs (lastE eD)).get k = some B) : ∃ b sz, r k = some (b, sz) ∧ BR (r.cut (naOf E rs (lastE eD))) w B b sz ∧ b < w.heap.size := by
  obtain ⟨b, sz, h1, h2⟩ := I.hp.at_ k B e
  exact ⟨b, sz, cut_le_self _ _ _ _ h1, h2, h2.lt⟩
/-- an operation that makes a block -/
theorem Inv.make {B : Bk} (hk : R.k = .alloc B) (hna : R.na = R.nb + 1) {cs : Array Value} (hB : BR (r.cut R.nb) (w.alloc (.cells cs B.e)) B w.heap.size cs.size) (u : Value)
    (hu : ∀ v, R.v = some v → VR ((r.add R.nb (w.heap.size, cs.size)).cut R.na) v u) : Inv E rs efs r0 w0 (listed.setIfInBounds i true) (a.put o.dst u) (w.alloc (.cells cs B.e)) (r.add R.nb (w.heap.size, cs.size)) eD later := by
  have hi := (Array.getElem?_eq_some_iff.1 ho).1
  have hil : i < listed.size := by rw [I.size]; exact hi
  have lo0 : E.s0.nx ≤ R.nb := by
    obtain ⟨R', q1, q2, q3, q4, q5⟩ := F.all i o hi ho
    rw [hR] at q1
    injection q1 with q1
    subst q1
    exact q3
  have hnone : r R.nb = none := nb_fresh h F I ho hR hn hed (by omega) R.nb (Nat.le_refl _) (by omega)
  have hle := Nm.le_add hnone (w.heap.size, cs.size)
  obtain ⟨f1, f2, f3, f4⟩ := put_frame h F I ho hR hn hed hle (fun _ _ _ _ _ _ => trivial) u hu
  have back : ∀ {q : Nat}, Li (listed.setIfInBounds i true) q → q ≠ i → Li listed q := fun {q} hl hq => ((Li_set hil q).1 hl).resolve_left hq
  have recI : ∀ {S : Rec}, rs.get i = some S → S = R := fun {S} hS => by rw [hR] at hS; injection hS with hS; exact hS.symm
  have old : ∀ b, b < w.heap.size → (w.alloc (.cells cs B.e)).heap[b]? = w.heap[b]? := fun b hb => heap_alloc_old w _ hb
  have radd : ∀ k, k ≠ R.nb → (r.add R.nb (w.heap.size, cs.size)) k = r k := fun k hk => by unfold Nm.add; rw [if_neg hk]
  have kne : ∀ {k : Nat} {x : Nat × Nat}, r k = some x → k ≠ R.nb := fun {k x} hx e => by subst e; rw [hnone] at hx; cases hx
  have pold : ∀ q S D, Li (listed.setIfInBounds i true) q → q ≠ i → rs.get q = some S → S.k = .alloc D → pendB E (lastE eD) q → ∃ b sz, (r.add R.nb (w.heap.size, cs.size)) S.nb = r S.nb ∧ r S.nb = some (b, sz) ∧ BR (r.cut S.na) w D b sz ∧ w0.heap.size ≤ b ∧ ∀ k D s, (E.after rs (lastE eD)).get k = some D → r k ≠ some (b, s) := fun q S D hl hq hS hD hp => by
    obtain ⟨b, sz, p1, p2, p3, p4⟩ := I.pend q S D (back hl hq) hS hD hp
    exact ⟨b, sz, radd _ (kne p1), p1, p2, p3, p4⟩
  refine ⟨by simpa using I.size, clo_set h F I ho hR hn hed, I.efs_eq, fun e he => (Li_set hil e).2 (.inr (I.eD_in e he)), fun e he hl => ?_, f1, f2, f3, f4,
    (I.hp.mono (cut_le hle (Nat.le_refl _))).keepW (w := w) (fun j D b s hj hr => old b ?_), fun q S D hl hS hD hp => ?_, fun q S D q' S' D' b s s' hl hS hD hp hl' hS' hD' hp' hb hb' => ?_, fun k x hk' => ?_, Nm.le_trans I.le0 hle, fun k hk' => (radd k (by have := lo0; omega)).trans (I.low0 k hk'), I.os, I.tape, I.output,
    Nat.le_trans I.wsz (by simp), fun b hb hno => (old b (Nat.lt_of_lt_of_le hb I.wsz)).trans (I.blk b hb hno), fun k D b s hk' hr => ?_⟩
  · rcases (Li_set hil e).1 hl with rfl | hl
    · obtain ⟨_, S, ha, hS, hSk⟩ := F.eff e (by rw [I.efs_eq]; exact List.mem_append_left _ he)
      rw [recI hS, hk] at hSk
      cases hSk
    · exact I.later_out e he hl
  · obtain ⟨b', s', h1, _, h3⟩ := after_at h F I ho hR hn hed hj
    have := cut_le_self _ _ _ _ hr
    rw [hle _ _ h1] at this
    injection this with this
    injection this with e1 _
    omega
  · by_cases hq : q = i
    · subst hq
      have := recI hS
      subst this
      rw [hk] at hD
      injection hD with hD
      subst hD
      refine ⟨_, _, Nm.add_at _ _ _, hB.mono (cut_le hle (by omega)), I.wsz, fun k D' s hk' hr => ?_⟩
      obtain ⟨b', s', h1, _, h3⟩ := after_at h F I ho hR hn hed hk'
      rw [hle _ _ h1] at hr
      injection hr with hr
      injection hr with e1 _
      omega
    · obtain ⟨b, sz, p0, p1, p2, p3, p4⟩ := pold q S D hl hq hS hD hp
      refine ⟨b, sz, by rw [p0]; exact p1, (p2.mono (cut_le hle (Nat.le_refl _))).keep (old b p2.lt), p3, fun k D' s hk' hr => ?_⟩
      obtain ⟨b', s', h1, _, h3⟩ := after_at h F I ho hR hn hed hk'
      rw [radd k (kne h1)] at hr
      exact p4 k D' s hk' hr
  · by_cases hq : q = i <;> by_cases hq' : q' = i
    · rw [hq, hq']
    · subst hq
      have := recI hS
      subst this
      obtain ⟨c, sz, p0, p1, p2, _⟩ := pold q' S' D' hl' hq' hS' hD' hp'
      rw [p0, p1] at hb'
      rw [Nm.add_at] at hb
      injection hb with hb; injection hb with e1 _
      injection hb' with hb'; injection hb' with e2 _
      have := p2.lt
      omega
    · subst hq'
      have := recI hS'
      subst this
      obtain ⟨c, sz, p0, p1, p2, _⟩ := pold q S D hl hq hS hD hp
      rw [p0, p1] at hb
      rw [Nm.add_at] at hb'
      injection hb with hb; injection hb with e1 _
      injection hb' with hb'; injection hb' with e2 _
      have := p2.lt
      omega
    · obtain ⟨c, sz, p0, _⟩ := pold q S D hl hq hS hD hp
      obtain ⟨c', sz', p0', _⟩ := pold q' S' D' hl' hq' hS' hD' hp'
      rw [p0] at hb
      rw [p0'] at hb'
      exact I.pinj q S D q' S' D' b s s' (back hl hq) hS hD hp (back hl' hq') hS' hD' hp' hb hb'
  · by_cases e : k = R.nb
    · exact .inr ⟨i, R, (Li_set hil i).2 (.inl rfl), hR, by omega, by omega⟩
    · rw [radd k e] at hk'
      rcases I.born k x hk' with hb | ⟨j, S, hl, hS, hb⟩
      · exact .inl hb
      · exact .inr ⟨j, S, (Li_set hil j).2 (.inr hl), hS, hb⟩
  · obtain ⟨b', s', h1, _, h3⟩ := after_at h F I ho hR hn hed hk'
    rw [radd k (kne h1)] at hr
    exact I.own k D b s hk' hr
end
end Go.Proofs.YtagajjilccjplaaGreat
end
section
set_option linter.unusedVariables false
set_option linter.unusedSimpArgs false
/- Running closed code: effects in a drawn region. -/
namespace Go.Proofs.YtagajjilccjplaaGreat
open Go.RowKit
set_option linter.unusedVariables false
set_option linter.unusedSectionVars false

/-- what is in the memory ahead of an effect -/
theorem merge_get {E : Env} {rs : Tr Rec} {p : Option Nat} {i k : Nat} {B : Bk} : ∀ (q : Nat), (E.merge rs p i q).get k = some B → (E.after rs p).get k = some B ∨ ∃ j S, j < q ∧ rs.get j = some S ∧ S.k = .alloc B ∧ S.nb = k ∧ E.isAnc j i = true ∧ pendB E p j
  | 0, e => .inl e
  | q + 1, e => by
    have lift : ((E.after rs p).get k = some B ∨ ∃ j S, j < q ∧ rs.get j = some S ∧ S.k = .alloc B ∧ S.nb = k ∧ E.isAnc j i = true ∧ pendB E p j) → ((E.after rs p).get k = some B ∨ ∃ j S, j < q + 1 ∧ rs.get j = some S ∧ S.k = .alloc B ∧ S.nb = k ∧ E.isAnc j i = true ∧ pendB E p j) := fun h => by
      rcases h with h | ⟨j, S, h1, h2⟩
      · exact .inl h
      · exact .inr ⟨j, S, by omega, h2⟩
    unfold Env.merge at e
    split at e
    · rename_i v nb na D hq
      split at e
      · rename_i hc
        simp only [Bool.and_eq_true, Bool.not_eq_true'] at hc
        rw [Tr.get_set] at e
        split at e
        · rename_i hkn
          injection e with e
          subst e
          exact .inr ⟨q, _, Nat.lt_succ_self _, hq, rfl, hkn.symm, hc.1, hc.2⟩
        · exact lift (merge_get q e)
      · exact lift (merge_get q e)
    · exact lift (merge_get q e)
section
variable {E : Env} (h : EnvOk E) {rs : Tr Rec} {efs : List Nat} {nxE : Nat} (F : FxQ E E.ops.size rs efs nxE) {r0 : Nm} {w0 : World} {listed : Array Bool} {a : Act} {w : World} {r : Nm} {eD later : List Nat}
  (I : Inv E rs efs r0 w0 listed a w r eD later) {i : Nat} {o : Oper} {R : Rec} (ho : E.ops[i]? = some o) (hR : rs.get i = some R) (hn : ¬ Li listed i) (hed : ∀ e ∈ o.after.toList, Region.binds .any e = true → Li listed e.on)
include h F I ho hR hn hed
/-- behind which effect it stands -/
theorem eff_rest {ha : Hp} (hk : R.k = .eff ha) : (∃ later', later = later' ++ [i]) ∧ (∀ e, lastE eD = some e → E.isAnc e i = true) ∧ opMem E.P E.ext E.call (E.ev rs i) (E.merge rs (lastE eD) i i) R.nb o.op = some (R.v, ha, R.na) := by
  have hi := (Array.getElem?_eq_some_iff.1 ho).1
  obtain ⟨R', q1, q2, q3, q4, q5⟩ := F.all i o hi ho
  rw [hR] at q1
  injection q1 with q1
  subst q1
  unfold OpF at q2
  rw [hk] at q2
  obtain ⟨_, rest, hsuf, hch, hm⟩ := q2
  have hD : ∀ i j, i < E.ops.size → Li listed i → E.isAnc j i = true → Li listed j := fun i j hi hl ha => closed_anc h (D := Li listed) I.clo i _ (Array.getElem?_eq_getElem hi) (I.clo i _ hl (Array.getElem?_eq_getElem hi)) j ha
  have hrest := chain_listed h F hD rest i hsuf (fun j hj => closed_anc h (D := Li listed) I.clo i o ho hed j hj)
  obtain ⟨pre, hpre⟩ := hsuf
  have heq := I.efs_eq
  rw [← hpre] at heq
  have key : ∀ (l m : List Nat), pre ++ i :: rest = l ++ m → (∀ e ∈ l, ¬ Li listed e) → (∀ e ∈ m, Li listed e) → l = pre ++ [i] ∧ m = rest := fun l m e h1 h2 => by
    rcases List.append_eq_append_iff.1 e with ⟨x, e1, e2⟩ | ⟨x, e1, e2⟩
    · cases x with
      | nil =>
        simp at e2
        exact absurd (h2 i (by rw [← e2]; simp)) hn
      | cons y x =>
        simp only [List.cons_append] at e2
        injection e2 with e2 e3
        subst e2
        cases x with
        | nil => exact ⟨e1, by simpa using e3.symm⟩
        | cons z x =>
          have hz : z ∈ rest := by rw [e3]; simp
          exact absurd (hrest z hz) (h1 z (by rw [e1]; simp))
    · exact absurd (h2 i (by rw [e2]; simp)) hn
  obtain ⟨k1, k2⟩ := key later eD heq I.later_out I.eD_in
  subst k2
  exact ⟨⟨pre, k1⟩, hch, hm⟩
theorem pend_nb {q : Nat} {S : Rec} {D : Bk} (hl : Li listed q) (hS : rs.get q = some S) (hD : S.k = .alloc D) : S.na = S.nb + 1 := by
  have hq : q < E.ops.size := by
    have := I.size
    unfold Li at hl
    rcases Nat.lt_or_ge q listed.size with h' | h'
    · omega
    · simp [Array.getElem?_eq_none h'] at hl
  obtain ⟨R', q1, q2, _⟩ := F.all q _ hq (Array.getElem?_eq_getElem hq)
  rw [hS] at q1
  injection q1 with q1
  subst q1
  unfold OpF at q2
  rw [hD] at q2
  obtain ⟨_, m, _, _, e⟩ := q2
  exact e
theorem naOf_le (hch : ∀ e, lastE eD = some e → E.isAnc e i = true) : naOf E rs (lastE eD) ≤ R.nb := by
  have hi := (Array.getElem?_eq_some_iff.1 ho).1
  obtain ⟨R', q1, q2, q3, q4, q5⟩ := F.all i o hi ho
  rw [hR] at q1
  injection q1 with q1
  subst q1
  cases hl : lastE eD with
  | none => exact q3
  | some e =>
    have hlt := isAnc_lt h i e hi (hch e hl)
    obtain ⟨S, g1, _⟩ := F.all e _ (by omega) (Array.getElem?_eq_getElem (by omega : e < E.ops.size))
    show (match rs.get e with | some R => R.na | none => 0) ≤ R.nb
    rw [g1]
    exact F.ord e i S R hlt hi g1 hR
/-- where the blocks ahead of the effect are -/
theorem merge_at (hch : ∀ e, lastE eD = some e → E.isAnc e i = true) {k : Nat} {B : Bk} (e : (E.merge rs (lastE eD) i i).get k = some B) :
    ∃ b sz, (r.cut R.nb) k = some (b, sz) ∧ BR (r.cut R.nb) w B b sz ∧ (((E.after rs (lastE eD)).get k = some B) ∨ ∃ q S, Li listed q ∧ rs.get q = some S ∧ S.k = .alloc B ∧ S.nb = k ∧ E.isAnc q i = true ∧ pendB E (lastE eD) q ∧ r S.nb = some (b, sz)) := by
  have hi := (Array.getElem?_eq_some_iff.1 ho).1
  have hle := naOf_le h F I ho hR hn hed hch
  rcases merge_get i e with e1 | ⟨q, S, hq, hS, hD, rfl, hanc, hp⟩
  · obtain ⟨b, sz, h1, h2⟩ := I.hp.at_ k B e1
    have hc := cut_le (Nm.le_refl r) hle
    exact ⟨b, sz, hc _ _ h1, h2.mono hc, .inl e1⟩
  · have hl := closed_anc h (D := Li listed) I.clo i o ho hed q hanc
    obtain ⟨b, sz, h1, h2, h3, h4⟩ := I.pend q S B hl hS hD hp
    have hsn := F.ord q i S R hq hi hS hR
    have hna := pend_nb h F I ho hR hn hed hl hS hD
    exact ⟨b, sz, cut_at h1 (by simp [Nat.blt_eq]; omega), h2.mono (cut_le (Nm.le_refl r) hsn), .inr ⟨q, S, hl, hS, hD, rfl, hanc, hp, h1⟩⟩
theorem merge_ok (hch : ∀ e, lastE eD = some e → E.isAnc e i = true) : RelH (r.cut R.nb) (E.merge rs (lastE eD) i i) w := by
  refine ⟨fun k B hk => ?_, fun k j B D b s t hk hj rk rj => ?_⟩
  · obtain ⟨b, sz, h1, h2, _⟩ := merge_at h F I ho hR hn hed hch hk
    exact ⟨b, sz, h1, h2⟩
  · obtain ⟨b1, s1, h1, _, k1⟩ := merge_at h F I ho hR hn hed hch hk
    obtain ⟨b2, s2, h2, _, k2⟩ := merge_at h F I ho hR hn hed hch hj
    rw [rk] at h1
    rw [rj] at h2
    injection h1 with h1; injection h1 with h1 h1'
    injection h2 with h2; injection h2 with h2 h2'
    subst h1 h2 h1' h2'
    have rk' := cut_le_self _ _ _ _ rk
    have rj' := cut_le_self _ _ _ _ rj
    rcases k1 with k1 | ⟨q, S, hl, hS, hD, rfl, _, hp, h3⟩ <;> rcases k2 with k2 | ⟨q', S', hl', hS', hD', rfl, _, hp', h3'⟩
    · obtain ⟨b1, s1, g1, _⟩ := I.hp.at_ k B k1
      obtain ⟨b2, s2, g2, _⟩ := I.hp.at_ j D k2
      have e1 := cut_le_self _ _ _ _ g1
      have e2 := cut_le_self _ _ _ _ g2
      rw [rk'] at e1
      rw [rj'] at e2
      injection e1 with e1
      injection e2 with e2
      exact I.hp.inj k j B D b s t k1 k2 (by rw [g1, e1]) (by rw [g2, e2])
    · obtain ⟨b2, s2, p1, _, _, p4⟩ := I.pend q' S' D hl' hS' hD' hp'
      rw [rj'] at p1
      injection p1 with p1; injection p1 with p1 _
      subst p1
      exact absurd rk' (p4 k B s k1)
    · obtain ⟨b2, s2, p1, _, _, p4⟩ := I.pend q S B hl hS hD hp
      rw [rk'] at p1
      injection p1 with p1; injection p1 with p1 _
      subst p1
      exact absurd rj' (p4 j D t k2)
    · have := I.pinj q S B q' S' D b s t hl hS hD hp hl' hS' hD' hp' rk' rj'
      subst this
      rw [hS] at hS'
      injection hS' with hS'
      rw [hS']
def joinN (n : Nat) (s r : Nm) : Nm := fun k => if k < n then s k else r k
/-- an effect -/
theorem Inv.eff {ha : Hp} (hk : R.k = .eff ha) {later' : List Nat} (hlat : later = later' ++ [i]) (hch : ∀ e, lastE eD = some e → E.isAnc e i = true) {s : Nm} {w' : World} (hmv : Mv R.nb (r.cut R.nb) (E.merge rs (lastE eD) i i) w R.na s ha w') (hfr : fresh s R.na) (u : Value)
    (hu : ∀ v, R.v = some v → VR s v u) : Inv E rs efs r0 w0 (listed.setIfInBounds i true) (a.put o.dst u) w' (joinN R.na s r) (i :: eD) later' := by
  have hi := (Array.getElem?_eq_some_iff.1 ho).1
  have hil : i < listed.size := by rw [I.size]; exact hi
  have hcut : (joinN R.na s r).cut R.na = s := by
    funext k
    unfold Nm.cut joinN
    by_cases e : k < R.na
    · rw [if_pos e, if_pos e]
    · rw [if_neg e]; exact (hfr k (by omega)).symm
  have low : ∀ k, k < R.nb → s k = r k := fun k hk => by rw [hmv.low k hk]; unfold Nm.cut; rw [if_pos hk]
  have hle : r.le (joinN R.na s r) := fun k x hx => by
    unfold joinN
    by_cases e : k < R.na
    · rw [if_pos e]
      by_cases e2 : k < R.nb
      · rw [low k e2]; exact hx
      · rw [nb_fresh h F I ho hR hn hed (by omega) k (by omega) e] at hx; cases hx
    · rw [if_neg e]; exact hx
  obtain ⟨f1, f2, f3, f4⟩ := put_frame h F I ho hR hn hed hle (fun _ _ _ _ _ _ => trivial) u (fun v hv => by rw [hcut]; exact hu v hv)
  have recI : ∀ {S : Rec}, rs.get i = some S → S = R := fun {S} hS => by rw [hR] at hS; injection hS with hS; exact hS.symm
  have haf : E.after rs (lastE (i :: eD)) = ha := by
    show (match rs.get i with | some ⟨_, _, _, .eff ha⟩ => ha | _ => .nil) = ha
    rw [hR]
    obtain ⟨v, nb, na, kd⟩ := R
    simp only at hk
    subst hk
    rfl
  have hnaOf : naOf E rs (lastE (i :: eD)) = R.na := by
    show (match rs.get i with | some R => R.na | none => 0) = R.na
    rw [hR]
  -- a block that waits is no block of the memory ahead
  have notin : ∀ q S D b sz, Li listed q → rs.get q = some S → S.k = .alloc D → pendB E (lastE eD) q → E.isAnc q i = false → r S.nb = some (b, sz) → ∀ k B t, (E.merge rs (lastE eD) i i).get k = some B → (r.cut R.nb) k ≠ some (b, t) := fun q S D b sz hl hS hD hp hna hb k B t hkB hkt => by
    obtain ⟨b', s', h1, _, k1⟩ := merge_at h F I ho hR hn hed hch hkB
    rw [hkt] at h1
    injection h1 with h1; injection h1 with h1 h1'
    subst h1 h1'
    have hkt' := cut_le_self _ _ _ _ hkt
    rcases k1 with k1 | ⟨q', S', hl', hS', hD', rfl, hanc, hp', h3'⟩
    · obtain ⟨b2, s2, p1, _, _, p4⟩ := I.pend q S D hl hS hD hp
      rw [hb] at p1
      injection p1 with p1; injection p1 with p1 _
      subst p1
      exact p4 k B t k1 hkt'
    · have := I.pinj q S D q' S' B b sz t hl hS hD hp hl' hS' hD' hp' hb hkt'
      subst this
      rw [hna] at hanc; cases hanc
  have pold : ∀ q S D, Li (listed.setIfInBounds i true) q → rs.get q = some S → S.k = .alloc D → pendB E (lastE (i :: eD)) q → Li listed q ∧ pendB E (lastE eD) q ∧ E.isAnc q i = false := fun q S D hl hS hD hp => by
    have hqi : q ≠ i := by
      rintro rfl
      rw [recI hS, hk] at hD
      cases hD
    have hp' : E.isAnc q i = false := hp
    refine ⟨((Li_set hil q).1 hl).resolve_left hqi, ?_, hp'⟩
    unfold pendB
    cases hl : lastE eD with
    | none => rfl
    | some e =>
      show E.isAnc q e = false
      cases hc : E.isAnc q e with
      | false => rfl
      | true => rw [isAnc_trans h i e q hi (hch e hl) hc] at hp'; cases hp'
  have inS : ∀ {k : Nat} {D : Bk} {b t : Nat}, ha.get k = some D → (joinN R.na s r) k = some (b, t) → s k = some (b, t) := fun {k D b t} hkD hb => by
    obtain ⟨b', s', h1, _⟩ := hmv.rel.at_ k D hkD
    have hlt : k < R.na := by
      rcases Nat.lt_or_ge k R.na with e | e
      · exact e
      · rw [hfr k e] at h1; cases h1
    unfold joinN at hb
    rw [if_pos hlt] at hb
    exact hb
  refine ⟨by simpa using I.size, clo_set h F I ho hR hn hed, by rw [I.efs_eq, hlat]; simp, fun e he => ?_, fun e he hl => ?_, f1, f2, f3, f4,
    by rw [haf, hnaOf, hcut]; exact hmv.rel, fun q S D hl hS hD hp => ?_, fun q S D q' S' D' b s1 s2 hl hS hD hp hl' hS' hD' hp' hb hb' => ?_, fun k x hk' => ?_, Nm.le_trans I.le0 hle, fun k hk' => ?_, hmv.os.trans I.os, hmv.tape.trans I.tape, hmv.output.trans I.output,
    Nat.le_trans I.wsz hmv.size, fun b hb hno => ?_, fun k D b t hk' hr => ?_⟩
  · rcases List.mem_cons.1 he with rfl | he
    · exact (Li_set hil _).2 (.inl rfl)
    · exact (Li_set hil e).2 (.inr (I.eD_in e he))
  · have hel : e ∈ later := by rw [hlat]; exact List.mem_append_left _ he
    rcases (Li_set hil e).1 hl with rfl | hl
    · have hd := F.dec
      rw [I.efs_eq, hlat] at hd
      have := (List.pairwise_append.1 (List.pairwise_append.1 hd).1).2.2 e he e (by simp)
      omega
    · exact I.later_out e hel hl
  · obtain ⟨hl', hp', hna⟩ := pold q S D hl hS hD hp
    obtain ⟨b, sz, p1, p2, p3, p4⟩ := I.pend q S D hl' hS hD hp'
    have hno := notin q S D b sz hl' hS hD hp' hna p1
    refine ⟨b, sz, hle _ _ p1, (p2.mono (cut_le hle (Nat.le_refl _))).keep (hmv.block b p2.lt hno), p3, fun k B t hkB hr => ?_⟩
    rw [haf] at hkB
    rcases hmv.own k B b t hkB (inS hkB hr) with e | ⟨j, B', t', e1, e2⟩
    · have := p2.lt; omega
    · exact hno j B' t' e1 e2
  · obtain ⟨g1, g2, g3⟩ := pold q S D hl hS hD hp
    obtain ⟨g1', g2', g3'⟩ := pold q' S' D' hl' hS' hD' hp'
    obtain ⟨c, sz, p1, _⟩ := I.pend q S D g1 hS hD g2
    obtain ⟨c', sz', p1', _⟩ := I.pend q' S' D' g1' hS' hD' g2'
    rw [hle _ _ p1] at hb
    rw [hle _ _ p1'] at hb'
    injection hb with hb; injection hb with e1 _
    injection hb' with hb'; injection hb' with e2 _
    exact I.pinj q S D q' S' D' b sz sz' g1 hS hD g2 g1' hS' hD' g2' (by rw [p1, e1]) (by rw [p1', e2])
  · unfold joinN at hk'
    by_cases e : k < R.na
    · rw [if_pos e] at hk'
      by_cases e2 : k < R.nb
      · rw [low k e2] at hk'
        rcases I.born k x hk' with hb | ⟨j, S, hl, hS, hb⟩
        · exact .inl hb
        · exact .inr ⟨j, S, (Li_set hil j).2 (.inr hl), hS, hb⟩
      · exact .inr ⟨i, R, (Li_set hil i).2 (.inl rfl), hR, by omega, e⟩
    · rw [if_neg e] at hk'
      rcases I.born k x hk' with hb | ⟨j, S, hl, hS, hb⟩
      · exact .inl hb
      · exact .inr ⟨j, S, (Li_set hil j).2 (.inr hl), hS, hb⟩
  · obtain ⟨R', q1, q2, q3, q4, q5⟩ := F.all i o hi ho
    rw [hR] at q1
    injection q1 with q1
    subst q1
    unfold joinN
    rw [if_pos (by omega), low k (by omega)]
    exact I.low0 k hk'
  · refine (hmv.block b (Nat.lt_of_lt_of_le hb I.wsz) fun k B t hkB hkt => ?_).trans (I.blk b hb hno)
    obtain ⟨b', s', h1, _, k1⟩ := merge_at h F I ho hR hn hed hch hkB
    rw [hkt] at h1
    injection h1 with h1; injection h1 with h1 h1'
    subst h1 h1'
    have hkt' := cut_le_self _ _ _ _ hkt
    rcases k1 with k1 | ⟨q', S', hl', hS', hD', rfl, hanc, hp', h3'⟩
    · rcases I.own k B b t k1 hkt' with e | ⟨j, D, t', e1, e2⟩
      · omega
      · exact hno j D t' e1 e2
    · obtain ⟨b2, s2, p1, _, p3, _⟩ := I.pend q' S' B hl' hS' hD' hp'
      rw [hkt'] at p1
      injection p1 with p1; injection p1 with p1 _
      subst p1
      omega
  · rw [haf] at hk'
    rcases hmv.own k D b t hk' (inS hk' hr) with e | ⟨j, B, t', e1, e2⟩
    · exact .inl (Nat.le_trans I.wsz e)
    · obtain ⟨b', s', h1, _, k1⟩ := merge_at h F I ho hR hn hed hch e1
      rw [e2] at h1
      injection h1 with h1; injection h1 with h1 h1'
      subst h1 h1'
      have hkt' := cut_le_self _ _ _ _ e2
      rcases k1 with k1 | ⟨q', S', hl', hS', hD', rfl, hanc, hp', h3'⟩
      · exact I.own j B b t' k1 hkt'
      · obtain ⟨b2, s2, p1, _, p3, _⟩ := I.pend q' S' B hl' hS' hD' hp'
        rw [hkt'] at p1
        injection p1 with p1; injection p1 with p1 _
        subst p1
        exact .inl p3
end
end Go.Proofs.YtagajjilccjplaaGreat
end
section
set_option linter.unusedVariables false
set_option linter.unusedSimpArgs false
/- Running closed code: regions that draw their order. -/
namespace Go.Proofs.YtagajjilccjplaaGreat
open Go.RowKit
set_option linter.unusedVariables false
set_option linter.unusedSectionVars false

theorem fresh_cut (r : Nm) (n : Nat) : fresh (r.cut n) n := fun j hj => by unfold Nm.cut; rw [if_neg (by omega)]
section
variable {E : Env} (h : EnvOk E) {rs : Tr Rec} {efs : List Nat} {nxE : Nat} (F : FxQ E E.ops.size rs efs nxE) {r0 : Nm} {w0 : World}
include h F
/-- one operation, whichever comes up -/
theorem any_step (hext : ExtS E.P E.ext) (hcall : CallS E.P E.call) (S : StabF E rs efs) {listed : Array Bool} {a : Act} {w : World} {r : Nm} {eD later : List Nat}
    (I : Inv E rs efs r0 w0 listed a w r eD later) {i : Nat} {o : Oper} (ho : E.ops[i]? = some o) (hn : ¬ Li listed i) (hed : ∀ e ∈ o.after.toList, Region.binds .any e = true → Li listed e.on) {K : Act → World → Prop} {Q : Exit → Act → World → Prop}
    (hK : ∀ a' w' r' eD' later', Inv E rs efs r0 w0 (listed.setIfInBounds i true) a' w' r' eD' later' → K a' w') : wpOp E.P E.ops Q i K a w := by
  have hi := (Array.getElem?_eq_some_iff.1 ho).1
  obtain ⟨R, hR, hf, q3, q4, q5⟩ := F.all i o hi ho
  have he := fun x v (e : E.ev rs i x = some v) => ev_ok h F I ho hR hn hed e
  unfold wpOp
  rw [ho]
  simp only
  have hf2 := hf
  unfold OpF at hf2
  split at hf2
  · rename_i hk
    rw [if_neg (by rw [want_ok h F I ho hR hn hed hf2.1]; exact Bool.false_ne_true)]
    exact hK _ _ _ _ _ (Inv.quiet h F I ho hR hn hed (fun B e => by rw [hk] at e; cases e) (fun B e => by rw [hk] at e; cases e) undef (fun v hv => by rw [hf2.2.1] at hv; injection hv with hv; subst hv; exact .t .nil))
  · rename_i hk
    obtain ⟨hw, v, hv, hp, hna⟩ := hf2
    rw [if_pos (want_ok h F I ho hR hn hed hw)]
    left
    obtain ⟨u, hu, hrun⟩ := opPure_ok (P := E.P) he hp
    unfold Oper.wp
    rw [hrun w]
    exact hK _ _ _ _ _ (Inv.quiet h F I ho hR hn hed (fun B e => by rw [hk] at e; cases e) (fun B e => by rw [hk] at e; cases e) u (fun v' hv' => by
      rw [hv] at hv'; injection hv' with hv'; subst hv'; rw [hna]; exact hu))
  · rename_i hk
    rw [if_pos (want_ok h F I ho hR hn hed hf2.1)]
    left
    obtain ⟨t, x, u, hop, hu, hrun⟩ := load_ok h F I ho hR hn hed S hk
    unfold Oper.wp
    rw [hrun]
    exact hK _ _ _ _ _ (Inv.quiet h F I ho hR hn hed (fun B e => by rw [hk] at e; cases e) (fun B e => by rw [hk] at e; cases e) u hu)
  · rename_i B hk
    obtain ⟨hw, m, hm, hv, hna⟩ := hf2
    rw [if_pos (want_ok h F I ho hR hn hed hw)]
    left
    obtain ⟨cs, hrun, hB, hmd⟩ := opAlloc_ok he hm w
    unfold Oper.wp
    rw [hrun]
    have hnone : r R.nb = none := nb_fresh h F I ho hR hn hed (by omega) R.nb (Nat.le_refl _) (by omega)
    refine hK _ _ _ _ _ (Inv.make h F I ho hR hn hed hk hna hB _ fun v' hv' => ?_)
    rw [hv] at hv'
    injection hv' with hv'
    subst hv'
    have hat : ((r.add R.nb (w.heap.size, cs.size)).cut R.na) R.nb = some (w.heap.size, cs.size) := cut_at (Nm.add_at _ _ _) (by simp [Nat.blt_eq]; omega)
    exact .w (.c (madeC_ok hat m hmd))
  · rename_i ha hk
    obtain ⟨⟨later', hlat⟩, hch, hm⟩ := eff_rest h F I ho hR hn hed hk
    rw [if_pos (want_ok h F I ho hR hn hed hf2.1)]
    left
    refine opMem_ok hext hcall he (merge_ok h F I ho hR hn hed hch) (fresh_cut r R.nb) hm K Q fun u w' ⟨s, hmv, hfr, hv⟩ => ?_
    refine hK _ _ _ _ _ (Inv.eff h F I ho hR hn hed hk hlat hch hmv hfr _ fun v' hv' => ?_)
    rcases hv with ⟨e1, _⟩ | ⟨x, y, e1, e2, hxy⟩
    · rw [e1] at hv'; cases hv'
    · rw [e1] at hv'; injection hv' with hv'; subst hv' e2; exact hxy
end
/-! ### Counting -/
def unl (listed : Array Bool) : Nat → Nat
  | 0 => 0
  | n + 1 => unl listed n + (if listed.getD n false = true then 0 else 1)
theorem unl_set {listed : Array Bool} {i : Nat} (hi : i < listed.size) (hn : ¬ Li listed i) : ∀ n, (n ≤ i → unl (listed.setIfInBounds i true) n = unl listed n) ∧ (i < n → unl (listed.setIfInBounds i true) n + 1 = unl listed n)
  | 0 => ⟨fun _ => rfl, fun h => by omega⟩
  | n + 1 => by
    obtain ⟨h1, h2⟩ := unl_set hi hn n
    have key : n ≠ i → (listed.setIfInBounds i true).getD n false = listed.getD n false := fun e => Go.getD_set_ne false (Ne.symm e)
    refine ⟨fun h => ?_, fun h => ?_⟩
    · unfold unl
      rw [h1 (by omega), key (by omega)]
    · by_cases e : n = i
      · subst e
        unfold unl
        have e1 : (listed.setIfInBounds n true).getD n false = true := (Li_set hi n).2 (.inl rfl)
        have e2 : ¬ listed.getD n false = true := hn
        rw [h1 (Nat.le_refl _), if_pos e1, if_neg e2]
      · unfold unl
        rw [key e, ← h2 (by omega)]
        omega
theorem unl_zero {listed : Array Bool} : ∀ {n : Nat}, unl listed n = 0 → ∀ j, j < n → Li listed j
  | 0, _, j, hj => by omega
  | n + 1, h, j, hj => by
    unfold unl at h
    by_cases e : j = n
    · subst e
      by_cases hl : listed.getD j false = true
      · exact hl
      · rw [if_neg hl] at h; omega
    · exact unl_zero (n := n) (by omega) j (by omega)
theorem unl_le {listed : Array Bool} : ∀ n, unl listed n ≤ n
  | 0 => Nat.le_refl _
  | n + 1 => by
    have := unl_le (listed := listed) n
    unfold unl
    split <;> omega
section
variable {E : Env} (h : EnvOk E) {rs : Tr Rec} {efs : List Nat} {nxE : Nat} (F : FxQ E E.ops.size rs efs nxE) {r0 : Nm} {w0 : World}
include h F
omit F in
theorem none_ready {listed : Array Bool} (hsz : listed.size = E.ops.size) (hr : Region.ready .any E.ops listed = []) : ∀ j, j < E.ops.size → Li listed j := by
  intro j
  induction j using Nat.strongRecOn with
  | _ j ih =>
    intro hj
    have ho : E.ops[j]? = some E.ops[j] := Array.getElem?_eq_getElem hj
    obtain ⟨a, h1, h2⟩ := h.anc j _ ho
    cases hl : listed.getD j true with
    | true =>
      have hjs : j < listed.size := by omega
      unfold Li
      simp [hjs] at hl ⊢
      exact hl
    | false =>
      have : j ∈ Region.ready .any E.ops listed := mem_ready.2 ⟨hl, _, ho, fun e he hb => by
        have hm := edgesB_sup _ _ h2 e (by simpa using he) hb
        have hanc : E.isAnc e.on j = true := by unfold Env.isAnc; rw [h1]; exact hm.1
        have hlt := isAnc_lt h j _ hj hanc
        exact ih e.on hlt (by omega)⟩
      rw [hr] at this
      cases this
theorem any_ok (hext : ExtS E.P E.ext) (hcall : CallS E.P E.call) (S : StabF E rs efs) {Q : Exit → Act → World → Prop}
    (hQ : ∀ listed a w r eD later, Inv E rs efs r0 w0 listed a w r eD later → (∀ j, j < E.ops.size → Li listed j) → Q .normal a w) :
    ∀ (fuel : Nat) (listed : Array Bool) (a : Act) (w : World) (r : Nm) (eD later : List Nat), Inv E rs efs r0 w0 listed a w r eD later → unl listed E.ops.size ≤ fuel → wpAny E.P .any E.ops Q fuel listed a w
  | 0, listed, a, w, r, eD, later, I, hu => by
    have hall := unl_zero (by omega : unl listed E.ops.size = 0)
    refine ⟨?_, hQ _ _ _ _ _ _ I hall⟩
    refine List.eq_nil_iff_forall_not_mem.2 fun j hj => ?_
    obtain ⟨h0, o, ho, _⟩ := mem_ready.1 hj
    have hjo := (Array.getElem?_eq_some_iff.1 ho).1
    have := hall j hjo
    have hjs : j < listed.size := by rw [I.size]; exact hjo
    unfold Li at this
    simp [hjs] at this h0
    rw [this] at h0
    cases h0
  | fuel + 1, listed, a, w, r, eD, later, I, hu => by
    refine ⟨fun hr => hQ _ _ _ _ _ _ I (none_ready h I.size hr), fun i hi => ?_⟩
    obtain ⟨h0, o, ho, hall⟩ := mem_ready.1 hi
    have hio := (Array.getElem?_eq_some_iff.1 ho).1
    have his : i < listed.size := by rw [I.size]; exact hio
    have hn : ¬ Li listed i := fun hl => by
      unfold Li at hl
      simp [his] at hl h0
      rw [hl] at h0
      cases h0
    refine any_step h F hext hcall S I ho hn (fun e he hb => hall e (by simpa using he) hb) fun a' w' r' eD' later' I' => ?_
    refine any_ok hext hcall S hQ fuel _ a' w' r' eD' later' I' ?_
    have := (unl_set his hn E.ops.size).2 hio
    omega
end
end Go.Proofs.YtagajjilccjplaaGreat
end
section
set_option linter.unusedVariables false
set_option linter.unusedSimpArgs false
/- Running closed code: a drawn region's end. -/
namespace Go.Proofs.YtagajjilccjplaaGreat
open Go.RowKit
set_option linter.unusedVariables false
set_option linter.unusedSectionVars false

theorem endT_get {rs : Tr Rec} {t : Nat} {v : V} : ∀ (l : List Oper) (i : Nat) (tm : Tr V), (endT rs l i tm).get t = some v →
    (∃ k o R, l[k]? = some o ∧ o.dst = some t ∧ rs.get (i + k) = some R ∧ R.v = some v) ∨ (tm.get t = some v ∧ ∀ (k : Nat) (o : Oper), l[k]? = some o → o.dst ≠ some t)
  | [], i, tm, e => .inr ⟨e, fun k o hk => by simp at hk⟩
  | o :: l, i, tm, e => by
    unfold endT at e
    rcases endT_get l (i + 1) _ e with ⟨k, o', R, h1, h2, h3, h4⟩ | ⟨h1, h2⟩
    · exact .inl ⟨k + 1, o', R, by simpa using h1, h2, by rw [show i + (k + 1) = i + 1 + k by omega]; exact h3, h4⟩
    · have cons : o.dst ≠ some t → ∀ (k : Nat) (o' : Oper), (o :: l)[k]? = some o' → o'.dst ≠ some t := fun hd k o' hk => by
        cases k with
        | zero => simp at hk; subst hk; exact hd
        | succ k => exact h2 k o' (by simpa using hk)
      split at h1
      · rename_i hd
        exact .inr ⟨h1, cons (by rw [hd]; simp)⟩
      · rename_i d hd
        split at h1
        · rename_i v' nb na kd hr
          rw [Tr.get_set] at h1
          split at h1
          · rename_i ht
            injection h1 with h1
            subst ht h1
            exact .inl ⟨0, o, _, rfl, hd, hr, rfl⟩
          · rename_i ht
            exact .inr ⟨h1, cons (by rw [hd]; simpa using fun e => ht e.symm)⟩
        · rw [Tr.get_del] at h1
          split at h1
          · cases h1
          · rename_i ht
            exact .inr ⟨h1, cons (by rw [hd]; simpa using fun e => ht e.symm)⟩
theorem endH_get {E : Env} {rs : Tr Rec} {p : Option Nat} {k : Nat} {B : Bk} : ∀ (q : Nat), (endH E rs p q).get k = some B → (E.after rs p).get k = some B ∨ ∃ j S, j < q ∧ rs.get j = some S ∧ S.k = .alloc B ∧ S.nb = k ∧ pendB E p j
  | 0, e => .inl e
  | q + 1, e => by
    have lift : ((E.after rs p).get k = some B ∨ ∃ j S, j < q ∧ rs.get j = some S ∧ S.k = .alloc B ∧ S.nb = k ∧ pendB E p j) → ((E.after rs p).get k = some B ∨ ∃ j S, j < q + 1 ∧ rs.get j = some S ∧ S.k = .alloc B ∧ S.nb = k ∧ pendB E p j) := fun h => by
      rcases h with h | ⟨j, S, h1, h2⟩
      · exact .inl h
      · exact .inr ⟨j, S, by omega, h2⟩
    unfold endH at e
    split at e
    · rename_i v nb na D hq
      split at e
      · exact lift (endH_get q e)
      · rename_i hc
        rw [Tr.get_set] at e
        split at e
        · rename_i hkn
          injection e with e
          subst e
          exact .inr ⟨q, _, Nat.lt_succ_self _, hq, rfl, hkn.symm, by simpa [pendB] using hc⟩
        · exact lift (endH_get q e)
    · exact lift (endH_get q e)
section
variable {E : Env} (h : EnvOk E) {rs : Tr Rec} {efs : List Nat} {nxE : Nat} (F : FxQ E E.ops.size rs efs nxE) {r0 : Nm} {w0 : World} {listed : Array Bool} {a : Act} {w : World} {r : Nm} {eD later : List Nat}
  (I : Inv E rs efs r0 w0 listed a w r eD later) (hall : ∀ j, j < E.ops.size → Li listed j)
include h F I hall
theorem end_efs : efs = eD := by
  have hl : later = [] := by
    cases later with
    | nil => rfl
    | cons e l => exact absurd (hall e (F.eff e (by rw [I.efs_eq]; simp)).1) (I.later_out e (by simp))
  rw [I.efs_eq, hl]; rfl
theorem end_at {k : Nat} {B : Bk} (e : (endH E rs (lastE efs) E.ops.size).get k = some B) :
    ∃ b sz, r k = some (b, sz) ∧ BR r w B b sz ∧ (((E.after rs (lastE eD)).get k = some B) ∨ ∃ q S, Li listed q ∧ rs.get q = some S ∧ S.k = .alloc B ∧ S.nb = k ∧ pendB E (lastE eD) q) := by
  rw [end_efs h F I hall] at e
  rcases endH_get _ e with e1 | ⟨q, S, hq, hS, hD, rfl, hp⟩
  · obtain ⟨b, sz, h1, h2⟩ := I.hp.at_ k B e1
    exact ⟨b, sz, cut_le_self _ _ _ _ h1, h2.mono (cut_le_self _ _), .inl e1⟩
  · obtain ⟨b, sz, h1, h2, h3, h4⟩ := I.pend q S B (hall q hq) hS hD hp
    exact ⟨b, sz, h1, h2.mono (cut_le_self _ _), .inr ⟨q, S, hall q hq, hS, hD, rfl, hp⟩⟩
theorem end_rel : RelH r (endH E rs (lastE efs) E.ops.size) w := by
  refine ⟨fun k B hk => ?_, fun k j B D b s t hk hj rk rj => ?_⟩
  · obtain ⟨b, sz, h1, h2, _⟩ := end_at h F I hall hk
    exact ⟨b, sz, h1, h2⟩
  · obtain ⟨b1, s1, h1, _, k1⟩ := end_at h F I hall hk
    obtain ⟨b2, s2, h2, _, k2⟩ := end_at h F I hall hj
    rcases k1 with k1 | ⟨q, S, hl, hS, hD, rfl, hp⟩ <;> rcases k2 with k2 | ⟨q', S', hl', hS', hD', rfl, hp'⟩
    · obtain ⟨b1, s1, g1, _⟩ := I.hp.at_ k B k1
      obtain ⟨b2, s2, g2, _⟩ := I.hp.at_ j D k2
      have e1 := cut_le_self _ _ _ _ g1
      have e2 := cut_le_self _ _ _ _ g2
      rw [rk] at e1
      rw [rj] at e2
      injection e1 with e1
      injection e2 with e2
      exact I.hp.inj k j B D b s t k1 k2 (by rw [g1, e1]) (by rw [g2, e2])
    · obtain ⟨b2, s2, p1, _, _, p4⟩ := I.pend q' S' D hl' hS' hD' hp'
      rw [rj] at p1
      injection p1 with p1; injection p1 with p1 _
      subst p1
      exact absurd rk (p4 k B s k1)
    · obtain ⟨b2, s2, p1, _, _, p4⟩ := I.pend q S B hl hS hD hp
      rw [rk] at p1
      injection p1 with p1; injection p1 with p1 _
      subst p1
      exact absurd rj (p4 j D t k2)
    · have := I.pinj q S B q' S' D b s t hl hS hD hp hl' hS' hD' hp' rk rj
      subst this
      rw [hS] at hS'
      injection hS' with hS'
      rw [hS']
theorem end_fr : RelA r (endT rs E.ops.toList 0 E.s0.tm) E.N a := by
  refine ⟨I.asz, I.adf, fun t v hv => ?_⟩
  rcases endT_get _ 0 _ hv with ⟨k, o, R, h1, h2, h3, h4⟩ | ⟨h1, h2⟩
  · have ho : E.ops[k]? = some o := by simpa using h1
    have hk := (Array.getElem?_eq_some_iff.1 ho).1
    rw [Nat.zero_add] at h3
    obtain ⟨u, k1, k2⟩ := I.frD k o R v t (hall k hk) ho h3 h4 h2
    exact ⟨u, k1, k2.mono (cut_le_self _ _)⟩
  · obtain ⟨u, k1, k2⟩ := I.fr0 t v h1 (fun j hj => by
      obtain ⟨o, ho, hd⟩ := h.wr2 t j hj
      exact absurd hd (h2 j o (by simpa using ho)))
    exact ⟨u, k1, k2.mono (cut_le_self _ _)⟩
theorem end_fresh : fresh r nxE := by
  intro k hk
  cases hr : r k with
  | none => rfl
  | some x =>
    rcases I.born k x hr with hb | ⟨j, S, hlj, hS, hb1, hb2⟩
    · have := F.lo; omega
    · have hj : j < E.ops.size := by
        have := I.size
        unfold Li at hlj
        rcases Nat.lt_or_ge j listed.size with h' | h'
        · omega
        · simp [Array.getElem?_eq_none h'] at hlj
      obtain ⟨R', q1, _, _, _, q5⟩ := F.all j _ hj (Array.getElem?_eq_getElem hj)
      rw [hS] at q1
      injection q1 with q1
      subst q1
      omega
theorem end_mv : Mv E.s0.nx r0 E.s0.hp w0 nxE r (endH E rs (lastE efs) E.ops.size) w := by
  refine ⟨I.le0, F.lo, I.low0, end_rel h F I hall, I.os, I.tape, I.output, I.wsz, I.blk, fun k B b s hk hr => ?_⟩
  obtain ⟨b1, s1, h1, _, k1⟩ := end_at h F I hall hk
  rcases k1 with k1 | ⟨q, S, hl, hS, hD, rfl, hp⟩
  · exact I.own k B b s k1 hr
  · obtain ⟨b2, s2, p1, _, p3, _⟩ := I.pend q S B hl hS hD hp
    rw [hr] at p1
    injection p1 with p1; injection p1 with p1 _
    subst p1
    exact .inl p3
end
theorem dstsB_ok {N : Nat} : ∀ (l : List Oper), dstsB N l = true → ∀ (k : Nat) (o : Oper) (d : Nat), l[k]? = some o → o.dst = some d → d < N
  | [], _, k, o, d, hk, _ => by simp at hk
  | o :: l, h, k, o', d, hk, hd => by
    simp only [dstsB, Bool.and_eq_true] at h
    cases k with
    | zero =>
      simp at hk
      subst hk
      have h1 := h.1
      rw [hd] at h1
      simpa using h1
    | succ k => exact dstsB_ok l h.2 k o' d (by simpa using hk) hd
theorem drawR_ok (P : Program) (ext : ExtF) (hext : ExtS P ext) : DrawS P ext (drawR P ext) := by
  intro call hcall ops N s s' e r a w hS Q id hQ
  unfold drawR at e
  split at e
  case isFalse => cases e
  rename_i hc
  simp only [Bool.and_eq_true] at hc
  obtain ⟨hmix, hds⟩ := hc
  split at e
  case h_2 => cases e
  rename_i anc wr hanc hwr
  split at e
  case h_2 => cases e
  rename_i rs efs nx hrun
  split at e
  case isFalse => cases e
  rename_i hst
  injection e with e
  subst e
  generalize hE : (⟨P, ext, call, ops, N, s, anc, wr⟩ : Env) = E at hrun hst
  have e1 : E.P = P := by rw [← hE]
  have e2 : E.ops = ops := by rw [← hE]
  have e3 : E.N = N := by rw [← hE]
  have e4 : E.s0 = s := by rw [← hE]
  have e5 : E.anc = anc := by rw [← hE]
  have e6 : E.wr = wr := by rw [← hE]
  have e7 : E.ext = ext := by rw [← hE]
  have e8 : E.call = call := by rw [← hE]
  have hok : EnvOk E := by
    obtain ⟨_, a2⟩ := ancsB_ok ops.toList 0 .nil anc hanc
    obtain ⟨_, w2, w3⟩ := writersB_ok ops.toList 0 .nil wr hwr
    refine ⟨fun i o ho => ?_, fun i o d ho hd => ?_, fun t j ht => ?_, fun i o d ho hd => ?_⟩
    · rw [e5]
      have := a2 i o (by rw [e2] at ho; simpa using ho)
      simpa using this
    · rw [e6]
      have := w2 i o d (by rw [e2] at ho; simpa using ho) hd
      simpa using this
    · rw [e6] at ht
      rcases w3 t j ht with e | ⟨k, o, rfl, hk, hd⟩
      · cases e
      · exact ⟨o, by rw [e2]; simpa using hk, hd⟩
    · rw [e3]
      exact dstsB_ok _ hds i o d (by rw [e2] at ho; simpa using ho) hd
  have F : FxQ E E.ops.size rs efs nx := runD_ok hok E.ops.toList 0 .nil [] s.nx (Nat.zero_le _) (by simp) ⟨fun j o hj => (by omega), fun j k R S h1 h2 => (by omega), fun q hq => by simp at hq, .nil, by rw [e4]; exact Nat.le_refl _⟩ rs efs nx (by rw [e2]; exact hrun)
  have S : StabF E rs efs := fun i o R ho hR hk => by
    have := stableAll_ok ops.toList 0 hst i o R (by rw [e2] at ho; simpa using ho) (by rw [Nat.zero_add]; exact hR) hk
    rw [Nat.zero_add] at this
    exact this
  have hcut : r.cut s.nx = r := by
    funext k
    unfold Nm.cut
    by_cases e : k < s.nx
    · rw [if_pos e]
    · rw [if_neg e]; exact (hS.nx k (by omega)).symm
  have Lno : ∀ j, ¬ Li (Array.replicate ops.size false) j := fun j hl => by
    unfold Li at hl
    simp [Array.getElem?_replicate] at hl
    split at hl <;> cases hl
  have hp1 : RelH r s.hp w.drew := hS.hp.world rfl
  have I0 : Inv E rs efs r w.drew (Array.replicate ops.size false) a w.drew r [] efs := by
    refine ⟨by rw [e2]; simp, fun i o hl => absurd hl (Lno i), by simp, fun e he => by simp at he, fun e _ => Lno e, fun t v hv _ => ?_, fun i o R v t hl => absurd hl (Lno i), by rw [e3]; exact hS.fr.size, hS.fr.defers, ?_,
      fun q R B hl => absurd hl (Lno q), fun q R B q' R' B' b s s' hl => absurd hl (Lno q), fun k x hk => .inl ?_, Nm.le_refl _, fun _ _ => rfl, rfl, rfl, rfl, Nat.le_refl _, fun _ _ _ => rfl, fun k B b t hk hr => .inr ⟨k, B, t, hk, hr⟩⟩
    · rw [e4, hcut]
      rw [e4] at hv
      exact hS.fr.val t v hv
    · show RelH (r.cut E.s0.nx) E.s0.hp w.drew
      rw [e4, hcut]
      exact hp1
    · rw [e4]
      rcases Nat.lt_or_ge k s.nx with e | e
      · exact e
      · rw [hS.nx k e] at hk; cases hk
  refine wp_region_any hmix ?_
  have hfin := any_ok hok F (r0 := r) (w0 := w.drew) (by rw [e1, e7]; exact hext) (by rw [e1, e8]; exact hcall) S (Q := Q) (fun listed a' w' r' eD later I hall => ?_) ops.size _ a w.drew r [] efs I0 (by rw [e2]; exact unl_le _)
  · rw [e1, e2] at hfin
    exact hfin
  · have m := end_mv hok F I hall
    have f := end_fr hok F I hall
    have x := end_fresh hok F I hall
    rw [e4] at m f
    rw [e2] at m f
    rw [e3] at f
    rw [hE] at hQ
    exact hQ r' a' w' m.from_drew ⟨f, m.rel, x⟩
end Go.Proofs.YtagajjilccjplaaGreat
end
section
set_option linter.unusedVariables false
set_option linter.unusedSimpArgs false
/- Running closed code: atomic loads and stores; sync.Once. -/
namespace Go.Proofs.YtagajjilccjplaaGreat
open Go.RowKit
set_option linter.unusedVariables false

theorem BR.cell {r : Nm} {w : World} {B : Bk} {b sz : Nat} (h : BR r w B b sz) {o : Nat} (ho : o < B.n) : ∃ v, w.cell? ⟨b, o, none⟩ = some v ∧ CR r (B.cell o) v := by
  obtain ⟨cs, hg, hsz, hn, hc⟩ := h.ex (h.nomap (by omega))
  obtain ⟨v, hv, hr⟩ := hc o ho
  exact ⟨v, by rw [cell_of_row w b o cs B.e (0, 0) hg]; exact hv, hr⟩
theorem BR.frozen {r : Nm} {w : World} {B : Bk} {b sz : Nat} (h : BR r w B b sz) (o : Nat) : w.frozen? ⟨b, o, none⟩ = false := by
  cases hm : B.mp with
  | none => obtain ⟨cs, hg, _⟩ := h.ex hm; simp [World.frozen?, hg]
  | some l => obtain ⟨_, es, clk, hg, _⟩ := h.mx l hm; simp [World.frozen?, hg]
theorem BR.int {r : Nm} {w : World} {B : Bk} {b sz : Nat} (h : BR r w B b sz) {o : Nat} (ho : o < B.n) {k : IntKind} {x : Int} (e : B.cell o = .i k x) : w.cell? ⟨b, o, none⟩ = some (.int k x) := by
  obtain ⟨v, hv, hr⟩ := h.cell ho
  rw [e] at hr
  cases hr
  exact hv
theorem BR.setCell {r : Nm} {w : World} {B : Bk} {b sz : Nat} (h : BR r w B b sz) {o : Nat} (ho : o < B.n) {c : C} {v : Value} (hv : CR r c v) : BR r (w.setCell ⟨b, o, none⟩ v) (B.put o [c]) b sz := by
  have hm := h.nomap (by omega)
  obtain ⟨cs, hg, hsz, hn, hc⟩ := h.ex hm
  refine ⟨fun l hl => absurd (hm.symm.trans hl) (by simp), fun _ => ⟨cs.setIfInBounds o v, ?_, by simpa using hsz, hn, fun j hj => ?_⟩⟩
  · simp [World.setCell, Array.getElem?_modify, hg]
    rfl
  · rw [Bk.put_cell]
    by_cases e : j = o
    · subst e
      refine ⟨v, by rw [Array.getElem?_setIfInBounds_self_of_lt (by omega)], ?_⟩
      rw [if_pos ⟨Nat.le_refl _, Nat.lt_succ_self _⟩, Nat.sub_self]
      exact hv
    · obtain ⟨u, hu, hr⟩ := hc j hj
      refine ⟨u, by rw [Array.getElem?_setIfInBounds_ne (Ne.symm e)]; exact hu, ?_⟩
      rw [if_neg (by rw [List.length_singleton]; omega)]
      exact hr
/-! ### Atomic loads and stores -/
/-! ### sync.Once -/
end Go.Proofs.YtagajjilccjplaaGreat
end
section
set_option linter.unusedVariables false
set_option linter.unusedSimpArgs false
/- Running closed code: a call with arguments and memory, run; numbers that are not known. -/
namespace Go.Proofs.YtagajjilccjplaaGreat
open Go.RowKit
set_option linter.unusedVariables false

theorem runs_ok {P : Program} {ext : ExtF} {sp : SpF} {dr : DrawF} (hext : ExtS P ext) (hsp : SpS P sp) (hdr : DrawS P ext dr) {m : Nat} {f : FuncId} {xs : List V} {H H' : Hp} {nx nx' : Nat} {v : V}
    (h : callF P (run P ext sp dr m) f xs H nx = some (v, H', nx')) {r : Nm} {w : World} {us : List Value} (hu : VsR r xs us) (hH : RelH r H w) (hf : fresh r nx) :
    Calls P f us.toArray w fun e w' => ∃ r' u, e = .returned u ∧ VR r' v u ∧ Mv nx r H w nx' r' H' w' ∧ fresh r' nx' :=
  callF_ok (run_ok hext hsp hdr m).1 f xs H nx v H' nx' h r w us hu hH hf
theorem relH_nil (r : Nm) (w : World) : RelH r .nil w := ⟨fun k B hk => (by cases hk), fun k j B D b s t hk => (by cases hk)⟩
end Go.Proofs.YtagajjilccjplaaGreat
end
