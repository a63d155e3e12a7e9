/- Joined: Xq20, Xq21, Xq22, Xq23, Xq24. -/
import Derived.Test.YtgilghiegfgjeaaGreatDoorMgDeskHeads10
section
set_option linter.unusedVariables false
set_option linter.unusedSimpArgs false
/- Running closed code: the state in the middle of a drawn region, whatever order was drawn; operations that make no effect. -/
namespace Go.Proofs.YtgilghiegfgjeaaGreatDoor
open Go.RowKit
set_option linter.unusedVariables false
set_option linter.unusedSectionVars false

def Nm.cut (r : Nm) (n : Nat) : Nm := fun k => if k < n then r k else none
theorem cut_le {r s : Nm} (h : r.le s) {n m : Nat} (hn : n ≤ m) : (r.cut n).le (s.cut m) := fun k x e => by
  unfold Nm.cut at *
  split at e
  · rw [if_pos (by omega)]; exact h k x e
  · cases e
theorem cut_le_self (r : Nm) (n : Nat) : (r.cut n).le r := fun k x e => by
  unfold Nm.cut at e
  split at e
  · exact e
  · cases e
theorem RelH.mono {r s : Nm} {H : Hp} {w : World} (h : RelH r H w) (k : r.le s) : RelH s H w := by
  refine ⟨fun j B hj => ?_, fun i j B D b x y hi hj si sj => ?_⟩
  · obtain ⟨b, sz, h1, h2⟩ := h.at_ j B hj
    exact ⟨b, sz, k _ _ h1, h2.mono k⟩
  · obtain ⟨b1, s1, h1, _⟩ := h.at_ i B hi
    obtain ⟨b2, s2, h2, _⟩ := h.at_ j D hj
    have e1 := k _ _ h1
    have e2 := k _ _ h2
    rw [si] at e1
    rw [sj] at e2
    injection e1 with e1
    injection e2 with e2
    exact h.inj i j B D b x y hi hj (by rw [h1, e1]) (by rw [h2, e2])
def naOf (E : Env) (rs : Tr Rec) : Option Nat → Nat
  | none => E.s0.nx
  | some e => match rs.get e with
    | some R => R.na
    | none => 0
def Li (listed : Array Bool) (i : Nat) : Prop := listed.getD i false = true
/-- which allocs are not yet part of the memory behind effect p -/
def pendB (E : Env) (p : Option Nat) (q : Nat) : Prop := E.mergedB p q = false
structure Inv (E : Env) (rs : Tr Rec) (efs : List Nat) (r0 : Nm) (w0 : World) (listed : Array Bool) (a : Act) (w : World) (r : Nm) (eD later : List Nat) : Prop where
  size : listed.size = E.ops.size
  clo : ∀ i o, Li listed i → E.ops[i]? = some o → ∀ e ∈ o.after.toList, Region.binds .any e = true → Li listed e.on
  efs_eq : efs = later ++ eD
  eD_in : ∀ e ∈ eD, Li listed e
  later_out : ∀ e ∈ later, ¬ Li listed e
  fr0 : ∀ t v, E.s0.tm.get t = some v → (∀ j, E.wr.get t = some j → ¬ Li listed j) → ∃ u, a.tmps[t]? = some u ∧ VR (r.cut E.s0.nx) v u
  frD : ∀ (i : Nat) (o : Oper) (R : Rec) (v : V) (t : Nat), Li listed i → E.ops[i]? = some o → rs.get i = some R → R.v = some v → o.dst = some t → ∃ u, a.tmps[t]? = some u ∧ VR (r.cut R.na) v u
  asz : a.tmps.size = E.N
  adf : a.defers = []
  hp : RelH (r.cut (naOf E rs (lastE eD))) (E.after rs (lastE eD)) w
  pend : ∀ q R B, Li listed q → rs.get q = some R → R.k = .alloc B → pendB E (lastE eD) q → ∃ b sz, r R.nb = some (b, sz) ∧ BR (r.cut R.na) w B b sz ∧ w0.heap.size ≤ b ∧ ∀ k D s, (E.after rs (lastE eD)).get k = some D → r k ≠ some (b, s)
  pinj : ∀ q R B q' R' B' b s s', Li listed q → rs.get q = some R → R.k = .alloc B → pendB E (lastE eD) q → Li listed q' → rs.get q' = some R' → R'.k = .alloc B' → pendB E (lastE eD) q' → r R.nb = some (b, s) → r R'.nb = some (b, s') → q = q'
  born : ∀ k x, r k = some x → k < E.s0.nx ∨ ∃ i R, Li listed i ∧ rs.get i = some R ∧ R.nb ≤ k ∧ k < R.na
  le0 : r0.le r
  low0 : ∀ k, k < E.s0.nx → r k = r0 k
  os : w.os = w0.os
  tape : w.tape = w0.tape
  output : w.output = w0.output
  wsz : w0.heap.size ≤ w.heap.size
  blk : ∀ b, b < w0.heap.size → (∀ k B s, E.s0.hp.get k = some B → r0 k ≠ some (b, s)) → w.heap[b]? = w0.heap[b]?
  own : ∀ k B b s, (E.after rs (lastE eD)).get k = some B → r k = some (b, s) → w0.heap.size ≤ b ∨ ∃ j D t, E.s0.hp.get j = some D ∧ r0 j = some (b, t)
theorem Li_set {listed : Array Bool} {i : Nat} (hi : i < listed.size) (j : Nat) : Li (listed.setIfInBounds i true) j ↔ j = i ∨ Li listed j := by
  unfold Li
  by_cases e : j = i
  · subst e
    simp [hi]
  · rw [Go.getD_set_ne false (Ne.symm e)]
    simp [e]
section
variable {E : Env} (h : EnvOk E) {rs : Tr Rec} {efs : List Nat} {nxE : Nat} (F : FxQ E E.ops.size rs efs nxE) {r0 : Nm} {w0 : World} {listed : Array Bool} {a : Act} {w : World} {r : Nm} {eD later : List Nat}
  (I : Inv E rs efs r0 w0 listed a w r eD later) {i : Nat} {o : Oper} {R : Rec} (ho : E.ops[i]? = some o) (hR : rs.get i = some R) (hn : ¬ Li listed i) (hed : ∀ e ∈ o.after.toList, Region.binds .any e = true → Li listed e.on)
include h F I ho hR hn hed
theorem slot_ok {t : Nat} {v : V} (e : E.slot rs i t = some v) : ∃ u, a.tmps[t]? = some u ∧ VR (r.cut R.nb) v u := by
  have hi := (Array.getElem?_eq_some_iff.1 ho).1
  obtain ⟨R', q1, _, q3, q4, q5⟩ := F.all i o hi ho
  rw [hR] at q1
  injection q1 with q1
  subst q1
  unfold Env.slot at e
  split at e
  · rename_i hw
    obtain ⟨u, h1, h2⟩ := I.fr0 t v e (fun j hj => by rw [hw] at hj; cases hj)
    exact ⟨u, h1, h2.mono (cut_le (Nm.le_refl r) q3)⟩
  · rename_i j hj
    split at e
    · rename_i ha
      split at e
      · rename_i S hS
        have hlj := closed_anc h (D := Li listed) I.clo i o ho hed j ha
        have hlt := isAnc_lt h i j hi ha
        obtain ⟨o', ho', hd⟩ := h.wr2 t j hj
        obtain ⟨u, h1, h2⟩ := I.frD j o' S v t hlj ho' hS e hd
        exact ⟨u, h1, h2.mono (cut_le (Nm.le_refl r) (F.ord j i S R hlt hi hS hR))⟩
      · cases e
    · split at e
      · rename_i ha
        have hnj : ¬ Li listed j := fun hlj => by
          obtain ⟨o', ho', _⟩ := h.wr2 t j hj
          exact hn (closed_anc h (D := Li listed) I.clo j o' ho' (I.clo j o' hlj ho') i ha)
        obtain ⟨u, h1, h2⟩ := I.fr0 t v e (fun j' hj' => by rw [hj] at hj'; injection hj' with hj'; subst hj'; exact hnj)
        exact ⟨u, h1, h2.mono (cut_le (Nm.le_refl r) q3)⟩
      · cases e
theorem ev_ok {x : Operand} {v : V} (e : E.ev rs i x = some v) : VR (r.cut R.nb) v (a.eval x) := by
  cases x with
  | tmp t =>
    obtain ⟨u, h1, h2⟩ := slot_ok h F I ho hR hn hed e
    show VR _ v (a.tmps.getD t undef)
    rw [Array.getD_eq_getD_getElem?, h1]
    exact h2
  | const u => exact vOf_ok e
  | func f =>
    injection e with e
    subst e
    exact .w (.c (.f f .nil .nil))
  | global g => cases e
theorem want_ok {b : Bool} (e : E.want rs i o = some b) : Region.wanted o (yielded E.ops a.tmps) = b := by
  unfold Env.want at e
  unfold Region.wanted
  split at e
  · rename_i hg; rw [hg]; injection e
  · rename_i j want hg
    rw [hg]
    simp only
    split at e
    · rename_i q hq
      split at e
      · rename_i t ht
        split at e
        · rename_i c hc
          injection e with e
          subst e
          obtain ⟨u, h1, h2⟩ := slot_ok h F I ho hR hn hed hc
          cases h2 with | w h2 => cases h2 with | c h2 => cases h2 with | b =>
          have : yielded E.ops a.tmps j = some c := by
            unfold yielded
            rw [hq]
            simp [ht, h1]
          rw [this]
          cases c <;> cases want <;> rfl
        · rename_i hc
          injection e with e
          subst e
          obtain ⟨u, h1, h2⟩ := slot_ok h F I ho hR hn hed hc
          cases h2 with | t h2 => cases h2 with | nil =>
          have : yielded E.ops a.tmps j = none := by
            unfold yielded
            rw [hq]
            simp [ht, h1]
          rw [this]
          cases want <;> rfl
        · cases e
      · cases e
    · cases e
theorem nb_fresh (hlt : R.nb < R.na) : ∀ k, R.nb ≤ k → k < R.na → r k = none := by
  have hi := (Array.getElem?_eq_some_iff.1 ho).1
  obtain ⟨R', q1, _, q3, q4, q5⟩ := F.all i o hi ho
  rw [hR] at q1
  injection q1 with q1
  subst q1
  intro k hk1 hk2
  cases hr : r k with
  | none => rfl
  | some x =>
    rcases I.born k x hr with hb | ⟨j, S, hlj, hS, hb1, hb2⟩
    · omega
    · have hj : j < E.ops.size := by
        have := I.size
        unfold Li at hlj
        rcases Nat.lt_or_ge j listed.size with h' | h'
        · omega
        · simp [Array.getElem?_eq_none h'] at hlj
      rcases Nat.lt_trichotomy j i with e | e | e
      · have := F.ord j i S R e hi hS hR; omega
      · subst e; exact absurd hlj hn
      · have := F.ord i j R S e hj hR hS; omega
/-- one more operation has run: the frame and what it leaves alone -/
theorem put_frame {s : Nm} (hs : r.le s) (hput : ∀ v t, R.v = some v → o.dst = some t → ∀ u, VR (s.cut R.na) v u → True) (u : Value) (hu : ∀ v, R.v = some v → VR (s.cut R.na) v u) :
    (∀ t v, E.s0.tm.get t = some v → (∀ j, E.wr.get t = some j → ¬ Li (listed.setIfInBounds i true) j) → ∃ x, (a.put o.dst u).tmps[t]? = some x ∧ VR (s.cut E.s0.nx) v x) ∧
    (∀ (j : Nat) (o' : Oper) (S : Rec) (v : V) (t : Nat), Li (listed.setIfInBounds i true) j → E.ops[j]? = some o' → rs.get j = some S → S.v = some v → o'.dst = some t → ∃ x, (a.put o.dst u).tmps[t]? = some x ∧ VR (s.cut S.na) v x) ∧
    (a.put o.dst u).tmps.size = E.N ∧ (a.put o.dst u).defers = [] := by
  have hi := (Array.getElem?_eq_some_iff.1 ho).1
  have hil : i < listed.size := by rw [I.size]; exact hi
  have other : ∀ t, o.dst ≠ some t → (a.put o.dst u).tmps[t]? = a.tmps[t]? := fun t ht => by
    cases hd : o.dst with
    | none => rfl
    | some d =>
      rw [hd] at ht
      show (a.tmps.setIfInBounds d u)[t]? = _
      rw [Array.getElem?_setIfInBounds_ne (fun e => ht (by rw [e]))]
  refine ⟨fun t v hv hj => ?_, fun j o' S v t hl ho' hS hv ht => ?_, ?_, ?_⟩
  · have hnt : o.dst ≠ some t := fun hd => hj i (h.wr1 i o t ho hd) ((Li_set hil i).2 (.inl rfl))
    obtain ⟨x, h1, h2⟩ := I.fr0 t v hv (fun j hwj hlj => hj j hwj ((Li_set hil j).2 (.inr hlj)))
    exact ⟨x, by rw [other t hnt]; exact h1, h2.mono (cut_le hs (Nat.le_refl _))⟩
  · by_cases e : j = i
    · subst e
      rw [ho] at ho'
      injection ho' with ho'
      subst ho'
      rw [hR] at hS
      injection hS with hS
      subst hS
      refine ⟨u, ?_, hu v hv⟩
      rw [ht]
      show (a.tmps.setIfInBounds t u)[t]? = _
      have := h.dst j o t ho ht
      simp [I.asz, this]
    · have hlj : Li listed j := ((Li_set hil j).1 hl).resolve_left e
      obtain ⟨x, h1, h2⟩ := I.frD j o' S v t hlj ho' hS hv ht
      have hnt : o.dst ≠ some t := fun hd => by
        have e1 := h.wr1 i o t ho hd
        have e2 := h.wr1 j o' t ho' ht
        rw [e1] at e2
        injection e2 with e2
        exact e e2.symm
      exact ⟨x, by rw [other t hnt]; exact h1, h2.mono (cut_le hs (Nat.le_refl _))⟩
  · cases hd : o.dst with
    | none => exact I.asz
    | some d => show (a.tmps.setIfInBounds d u).size = _; simp [I.asz]
  · cases hd : o.dst with
    | none => exact I.adf
    | some d => exact I.adf
theorem clo_set : ∀ j o', Li (listed.setIfInBounds i true) j → E.ops[j]? = some o' → ∀ e ∈ o'.after.toList, Region.binds .any e = true → Li (listed.setIfInBounds i true) e.on := by
  have hi := (Array.getElem?_eq_some_iff.1 ho).1
  have hil : i < listed.size := by rw [I.size]; exact hi
  intro j o' hl ho' e he hb
  rw [Li_set hil]
  right
  rcases (Li_set hil j).1 hl with rfl | hl
  · rw [ho] at ho'
    injection ho' with ho'
    subst ho'
    exact hed e he hb
  · exact I.clo j o' hl ho' e he hb
/-- an operation that touches no memory -/
theorem Inv.quiet (hk : ∀ B, R.k ≠ .alloc B) (hk2 : ∀ ha, R.k ≠ .eff ha) (u : Value) (hu : ∀ v, R.v = some v → VR (r.cut R.na) v u) : Inv E rs efs r0 w0 (listed.setIfInBounds i true) (a.put o.dst u) w r eD later := by
  have hi := (Array.getElem?_eq_some_iff.1 ho).1
  have hil : i < listed.size := by rw [I.size]; exact hi
  obtain ⟨f1, f2, f3, f4⟩ := put_frame h F I ho hR hn hed (Nm.le_refl r) (fun _ _ _ _ _ _ => trivial) u hu
  have back : ∀ q S B, Li (listed.setIfInBounds i true) q → rs.get q = some S → S.k = .alloc B → Li listed q := fun q S B hl hS hB => by
    rcases (Li_set hil q).1 hl with rfl | hl
    · rw [hR] at hS; injection hS with hS; subst hS; exact absurd hB (hk B)
    · exact hl
  refine ⟨by simpa using I.size, clo_set h F I ho hR hn hed, I.efs_eq, fun e he => (Li_set hil e).2 (.inr (I.eD_in e he)), fun e he hl => ?_, f1, f2, f3, f4, I.hp, fun q S B hl hS hB hp => I.pend q S B (back q S B hl hS hB) hS hB hp,
    fun q S B q' S' B' b s s' hl hS hB hp hl' hS' hB' hp' => I.pinj q S B q' S' B' b s s' (back q S B hl hS hB) hS hB hp (back q' S' B' hl' hS' hB') hS' hB' hp', fun k x hk => ?_, I.le0, I.low0, I.os, I.tape, I.output, I.wsz, I.blk, I.own⟩
  · rcases (Li_set hil e).1 hl with rfl | hl
    · obtain ⟨_, S, ha, hS, hSk⟩ := F.eff e (by rw [I.efs_eq]; exact List.mem_append_left _ he)
      rw [hR] at hS
      injection hS with hS
      subst hS
      exact hk2 ha hSk
    · exact I.later_out e he hl
  · rcases I.born k x hk with hb | ⟨j, S, hl, hS, hb⟩
    · exact .inl hb
    · exact .inr ⟨j, S, (Li_set hil j).2 (.inr hl), hS, hb⟩
end
end Go.Proofs.YtgilghiegfgjeaaGreatDoor
end
section
set_option linter.unusedVariables false
set_option linter.unusedSimpArgs false
/- Running closed code: loads and what is made, in a drawn region. -/
namespace Go.Proofs.YtgilghiegfgjeaaGreatDoor
open Go.RowKit
set_option linter.unusedVariables false
set_option linter.unusedSectionVars false

section
variable {r : Nm} {n : Nat}
theorem blt_of {k n : Nat} (h : Nat.blt k n = true) : k < n := by simpa [Nat.blt_eq] using h
theorem cut_at {k : Nat} {x : Nat × Nat} (h : r k = some x) (hk : Nat.blt k n = true) : (r.cut n) k = some x := by
  unfold Nm.cut
  rw [if_pos (blt_of hk)]
  exact h
theorem AR.cut {l : List (Nat × Nat)} {us : List Value} (h : AR r l us) : bdAs n l = true → AR (r.cut n) l us := by
  induction h with
  | nil => intro _; exact .nil
  | cons e _ ih =>
    intro hb
    simp only [bdAs, Bool.and_eq_true] at hb
    exact .cons (cut_at e hb.1) (ih hb.2)
theorem CR.cut {c : C} {v : Value} (h : CR r c v) (hb : bdC n c = true) : CR (r.cut n) c v := by
  induction h with
  | b => exact .b _
  | i => exact .i _ _
  | s => exact .s _
  | p0 => exact .p0
  | p e => exact .p (cut_at e hb)
  | l0 => exact .l0 _ _
  | l m c e => exact .l m c (cut_at e hb)
  | u m c es e h1 h2 h3 => exact .u m c es (cut_at e hb) h1 h2 h3
  | f fn ha hc =>
    simp only [bdC, Bool.and_eq_true] at hb
    exact .f fn (ha.cut hb.1) (hc.cut hb.2)
  | nf => exact .nf
  | ni => exact .ni
  | m0 => exact .m0
  | m e => exact .m (cut_at e hb)
  | o e hf => exact .o (cut_at e hb) hf
  | d t _ ih => exact .d t (ih hb)
  | da t _ ih => exact .da t (ih hb)
theorem CsR.cut {cs : List C} {vs : List Value} (h : CsR r cs vs) : bdCs n cs = true → CsR (r.cut n) cs vs := by
  induction h with
  | nil => intro _; exact .nil
  | cons e _ ih =>
    intro hb
    simp only [bdCs, Bool.and_eq_true] at hb
    exact .cons (e.cut hb.1) (ih hb.2)
theorem WR.cut {x : Wv} {v : Value} (h : WR r x v) (hb : bdW n x = true) : WR (r.cut n) x v := by
  cases h with
  | c e => exact .c (e.cut hb)
  | a e => exact .a (e.cut hb)
end
/-- what is known of the loads -/
def StabF (E : Env) (rs : Tr Rec) (efs : List Nat) : Prop := ∀ i o R, E.ops[i]? = some o → rs.get i = some R → R.k = .load →
  ∃ t x k off y, o.op = .load t x ∧ E.ev rs i x = some (.w (.c (.p (some (k, off))))) ∧ R.v = some (.w y) ∧ bdW R.nb y = true ∧ E.stable rs i k off t y efs = true
theorem stableAll_ok {E : Env} {rs : Tr Rec} {efs : List Nat} : ∀ (l : List Oper) (i : Nat), E.stableAll rs efs l i = true → ∀ k o R, l[k]? = some o → rs.get (i + k) = some R → R.k = .load →
    ∃ t x n off y, o.op = .load t x ∧ E.ev rs (i + k) x = some (.w (.c (.p (some (n, off))))) ∧ R.v = some (.w y) ∧ bdW R.nb y = true ∧ E.stable rs (i + k) n off t y efs = true
  | [], i, h, k, o, R, hk, _, _ => by simp at hk
  | o :: l, i, h, k, o', R, hk, hR, hL => by
    unfold Env.stableAll at h
    simp only [Bool.and_eq_true] at h
    cases k with
    | zero =>
      simp at hk
      subst hk
      rw [Nat.add_zero] at hR ⊢
      have h1 := h.1
      rw [hR] at h1
      obtain ⟨v, nb, na, kd⟩ := R
      simp only at hL
      subst hL
      split at h1
      · rename_i y nb' na' heq
        injection heq with heq
        injection heq with q1 q2 q3 q4
        subst q1 q2
        simp only [Bool.and_eq_true] at h1
        obtain ⟨hb, h1⟩ := h1
        split at h1
        · rename_i t x hop
          split at h1
          · rename_i n off hx
            exact ⟨t, x, n, off, y, hop, hx, rfl, hb, h1⟩
          · cases h1
        · cases h1
      · cases h1
      · rename_i _ hne
        exact absurd rfl (hne _ _ _)
    | succ k =>
      have := stableAll_ok l (i + 1) h.2 k o' R (by simpa using hk) (by rw [show i + 1 + k = i + (k + 1) by omega]; exact hR) hL
      rw [show i + (k + 1) = i + 1 + k by omega]
      exact this
theorem stable_at {E : Env} {rs : Tr Rec} {i k off t : Nat} {y : Wv} : ∀ (later eD : List Nat), E.stable rs i k off t y (later ++ eD) = true → (∀ e ∈ later, E.isAnc e i = false) → (∀ e, lastE eD = some e → E.isAnc i e = false) →
    ∃ B, E.find rs (lastE eD) i k i = some B ∧ opLoadB E.P B t off = some y
  | [], [], h, _, _ => by
    simp only [List.append_nil, Env.stable] at h
    split at h
    · rename_i B hB
      split at h
      · rename_i z hz; rw [eqWv_ok h] at hz; exact ⟨B, hB, hz⟩
      · cases h
    · cases h
  | [], e :: eD, h, _, h2 => by
    simp only [List.nil_append, Env.stable, Bool.and_eq_true, Bool.or_eq_true] at h
    rcases h.1 with h1 | h1
    · rw [h2 e rfl] at h1; cases h1
    · split at h1
      · rename_i B hB
        split at h1
        · rename_i z hz; rw [eqWv_ok h1] at hz; exact ⟨B, hB, hz⟩
        · cases h1
      · cases h1
  | e :: later, eD, h, h1, h2 => by
    simp only [List.cons_append, Env.stable, Bool.and_eq_true, Bool.or_eq_true] at h
    rcases h.2 with h3 | h3
    · rw [h1 e (by simp)] at h3; cases h3
    · exact stable_at later eD h3 (fun q hq => h1 q (by simp [hq])) h2
section
variable {E : Env} (h : EnvOk E) {rs : Tr Rec} {efs : List Nat} {nxE : Nat} (F : FxQ E E.ops.size rs efs nxE) {r0 : Nm} {w0 : World} {listed : Array Bool} {a : Act} {w : World} {r : Nm} {eD later : List Nat}
  (I : Inv E rs efs r0 w0 listed a w r eD later) {i : Nat} {o : Oper} {R : Rec} (ho : E.ops[i]? = some o) (hR : rs.get i = some R) (hn : ¬ Li listed i) (hed : ∀ e ∈ o.after.toList, Region.binds .any e = true → Li listed e.on)
include h F I ho hR hn hed
/-- a block that a load finds is there -/
theorem find_ok {k : Nat} {B : Bk} : ∀ (q : Nat), E.find rs (lastE eD) i k q = some B → ∃ b sz, r k = some (b, sz) ∧ BR r w B b sz
  | 0, e => by
    unfold Env.find at e
    obtain ⟨b, sz, h1, h2⟩ := I.hp.at_ k B e
    exact ⟨b, sz, cut_le_self _ _ _ _ h1, h2.mono (cut_le_self _ _)⟩
  | q + 1, e => by
    unfold Env.find at e
    split at e
    · rename_i B' hB'
      injection e with e
      subst e
      obtain ⟨b, sz, h1, h2⟩ := I.hp.at_ k _ hB'
      exact ⟨b, sz, cut_le_self _ _ _ _ h1, h2.mono (cut_le_self _ _)⟩
    · split at e
      · rename_i v nb na B' hq
        split at e
        · rename_i hc
          injection e with e
          subst e
          obtain ⟨rfl, ha, hp⟩ := hc
          have hlq := closed_anc h (D := Li listed) I.clo i o ho hed q ha
          obtain ⟨b, sz, h1, h2, _⟩ := I.pend q _ B' hlq hq rfl hp
          exact ⟨b, sz, h1, h2.mono (cut_le_self _ _)⟩
        · exact find_ok q e
      · exact find_ok q e
theorem load_ok (S : StabF E rs efs) (hk : R.k = .load) : ∃ t x u, o.op = .load t x ∧ (∀ v, R.v = some v → VR (r.cut R.na) v u) ∧ (execOp a.eval o).run E.P w = .ok (.value u) w := by
  have hi := (Array.getElem?_eq_some_iff.1 ho).1
  obtain ⟨t, x, k, off, y, hop, hx, hv, hb, hst⟩ := S i o R ho hR hk
  rw [I.efs_eq] at hst
  obtain ⟨B, hB, hy⟩ := stable_at later eD hst (fun e he => by
    cases hc : E.isAnc e i with
    | false => rfl
    | true => exact absurd (closed_anc h (D := Li listed) I.clo i o ho hed e hc) (I.later_out e he)) (fun e he => by
    cases hc : E.isAnc i e with
    | false => rfl
    | true =>
      have hle : Li listed e := I.eD_in e (by cases eD with | nil => cases he | cons q l => injection he with he; subst he; simp)
      have hes : e < E.ops.size := (F.eff e (by rw [I.efs_eq]; refine List.mem_append_right _ ?_; cases eD with | nil => cases he | cons q l => injection he with he; subst he; simp)).1
      have hoe : E.ops[e]? = some E.ops[e] := Array.getElem?_eq_getElem hes
      exact absurd (closed_anc h (D := Li listed) I.clo e _ hoe (I.clo e _ hle hoe) i hc) hn)
  obtain ⟨b, sz, rk, hBR⟩ := find_ok h F I ho hR hn hed i hB
  obtain ⟨u, hu, hrun⟩ := opLoadB_ok (P := E.P) hBR hy
  have hxv := ev_ok h F I ho hR hn hed hx
  have hp : a.eval x = ptrOf b off := by
    generalize a.eval x = z at hxv
    cases hxv with | w hxv => cases hxv with | c hxv => cases hxv with | p rk' =>
      have := cut_le_self _ _ _ _ rk'
      rw [rk] at this; injection this with this; injection this with e1 e2; subst e1; rfl
  obtain ⟨R', q1, q2, q3, q4, q5⟩ := F.all i o hi ho
  rw [hR] at q1
  injection q1 with q1
  subst q1
  refine ⟨t, x, u, hop, fun v hv' => ?_, ?_⟩
  · rw [hv] at hv'
    injection hv' with hv'
    subst hv'
    exact .w ((hu.cut hb).mono (cut_le (Nm.le_refl r) q4))
  · unfold execOp
    rw [hop]
    simp only [Sem.run_bind, hp, hrun, Result.andThen_ok, Sem.run_pure]
end
end Go.Proofs.YtgilghiegfgjeaaGreatDoor
end
section
set_option linter.unusedVariables false
set_option linter.unusedSimpArgs false
/- Running closed code: what is made, and effects, in a drawn region. -/
namespace Go.Proofs.YtgilghiegfgjeaaGreatDoor
open Go.RowKit
set_option linter.unusedVariables false
set_option linter.unusedSectionVars false

theorem edgesB_sup {anc : Tr Nat} {i : Nat} : ∀ (l : List Edge) (a : Nat), edgesB l anc i = some a → ∀ e ∈ l, Region.binds .any e = true → a.testBit e.on = true ∧ ∀ b, anc.get e.on = some b → ∀ j, b.testBit j = true → a.testBit j = true
  | [], a, h, e, he, _ => by simp at he
  | e0 :: l, a, h, e, he, hb => by
    unfold edgesB at h
    split at h
    · cases h
    · rename_i s hs
      split at h
      · rename_i hb0
        split at h
        · rename_i hlt
          split at h
          · rename_i b0 hbb
            injection h with h
            subst h
            have tb : ∀ j, Nat.testBit (Nat.lor (Nat.lor s (Nat.shiftLeft 1 e0.on)) b0) j = (s.testBit j || (1 <<< e0.on).testBit j || b0.testBit j) := fun j => by
              show ((s ||| (1 <<< e0.on)) ||| b0).testBit j = _
              rw [Nat.testBit_or, Nat.testBit_or]
            rcases List.mem_cons.1 he with rfl | he
            · refine ⟨?_, fun b hb2 j hj => ?_⟩
              · rw [tb, Nat.testBit_shiftLeft]; simp
              · rw [hbb] at hb2; injection hb2 with hb2; subst hb2; rw [tb, hj]; simp
            · obtain ⟨h1, h2⟩ := edgesB_sup l s hs e he hb
              refine ⟨by rw [tb, h1]; simp, fun b hb2 j hj => ?_⟩
              rw [tb, h2 b hb2 j hj]; simp
          · cases h
        · cases h
      · rename_i hb0
        injection h with h
        subst h
        rcases List.mem_cons.1 he with rfl | he
        · exact absurd hb hb0
        · exact edgesB_sup l s hs e he hb
section
variable {E : Env} (h : EnvOk E)
include h
theorem isAnc_trans : ∀ (i j k : Nat), i < E.ops.size → E.isAnc j i = true → E.isAnc k j = true → E.isAnc k i = true := by
  intro i
  induction i using Nat.strongRecOn with
  | _ i ih =>
    intro j k hi hj hk
    obtain ⟨o, a, ho, ha, hb, hjb⟩ := isAnc_def h hj hi
    obtain ⟨ed, hmem, hbind, hlt, hx⟩ := edgesB_ok _ _ hb j hjb
    obtain ⟨_, h2⟩ := edgesB_sup _ _ hb ed hmem hbind
    have key : E.isAnc k ed.on = true := by
      rcases hx with rfl | ⟨b, hbb, hbj⟩
      · exact hk
      · exact ih ed.on hlt j k (by omega) (by unfold Env.isAnc; rw [hbb]; exact hbj) hk
    have key2 := key
    unfold Env.isAnc at key2
    split at key2
    · rename_i b hbb
      unfold Env.isAnc
      rw [ha]
      exact h2 b hbb k key2
    · cases key2
variable {n : Nat} {rs : Tr Rec} {efs : List Nat} {nx : Nat} (F : FxQ E E.ops.size rs efs nx)
include F
theorem suffix_uniq {e : Nat} {l l' : List Nat} (h1 : (e :: l) <:+ efs) (h2 : (e :: l') <:+ efs) : l = l' := by
  have nd : ∀ {x y : List Nat}, (e :: x) <:+ efs → (e :: y) <:+ (e :: x) → x = y := fun {x y} hx hy => by
    rcases List.suffix_cons_iff.1 hy with e1 | e1
    · injection e1 with _ e1; exact e1.symm
    · have hp : List.Pairwise (· > ·) (e :: x) := F.dec.sublist hx.sublist
      have hm : e ∈ x := e1.subset (by simp)
      exact absurd ((List.pairwise_cons.1 hp).1 e hm) (by omega)
  rcases List.suffix_or_suffix_of_suffix h1 h2 with k | k
  · exact (nd h2 k).symm
  · exact nd h1 k
theorem eff_chain {e : Nat} {l : List Nat} (hs : (e :: l) <:+ efs) : ∀ x, lastE l = some x → E.isAnc x e = true := by
  obtain ⟨hlt, R, ha, hR, hk⟩ := F.eff e (hs.subset (by simp))
  obtain ⟨R', q1, q2, _⟩ := F.all e _ hlt (Array.getElem?_eq_getElem hlt)
  rw [hR] at q1
  injection q1 with q1
  subst q1
  unfold OpF at q2
  rw [hk] at q2
  obtain ⟨_, rest, k2, k3, _⟩ := q2
  rw [suffix_uniq h F hs k2]
  exact k3
theorem chain_listed {D : Nat → Prop} (hD : ∀ i j, i < E.ops.size → D i → E.isAnc j i = true → D j) : ∀ (l : List Nat) (e : Nat), (e :: l) <:+ efs → (∀ j, E.isAnc j e = true → D j) → ∀ x ∈ l, D x
  | [], e, _, _, x, hx => by simp at hx
  | y :: l, e, hs, ha, x, hx => by
    have hy := ha y (eff_chain h F hs y rfl)
    have hs' : (y :: l) <:+ efs := (List.suffix_cons e _).trans hs
    rcases List.mem_cons.1 hx with rfl | hx
    · exact hy
    · exact chain_listed hD l y hs' (fun j hj => hD y j (F.eff y (hs'.subset (by simp))).1 hy hj) x hx
end
theorem RelH.keepW {r : Nm} {H : Hp} {w w' : World} (h : RelH r H w) (k : ∀ j B b s, H.get j = some B → r j = some (b, s) → w'.heap[b]? = w.heap[b]?) : RelH r H w' := by
  refine ⟨fun j D hj => ?_, h.inj⟩
  obtain ⟨b, sz, h1, h2⟩ := h.at_ j D hj
  exact ⟨b, sz, h1, h2.keep (k j D b sz hj h1)⟩
section
variable {E : Env} (h : EnvOk E) {rs : Tr Rec} {efs : List Nat} {nxE : Nat} (F : FxQ E E.ops.size rs efs nxE) {r0 : Nm} {w0 : World} {listed : Array Bool} {a : Act} {w : World} {r : Nm} {eD later : List Nat}
  (I : Inv E rs efs r0 w0 listed a w r eD later) {i : Nat} {o : Oper} {R : Rec} (ho : E.ops[i]? = some o) (hR : rs.get i = some R) (hn : ¬ Li listed i) (hed : ∀ e ∈ o.after.toList, Region.binds .any e = true → Li listed e.on)
include h F I ho hR hn hed
theorem after_at {k : Nat} {B : Bk} (e : (E.after rs (lastE eD)).get k = some B) : ∃ b sz, r k = some (b, sz) ∧ BR (r.cut (naOf E rs (lastE eD))) w B b sz ∧ b < w.heap.size := by
  obtain ⟨b, sz, h1, h2⟩ := I.hp.at_ k B e
  exact ⟨b, sz, cut_le_self _ _ _ _ h1, h2, h2.lt⟩
/-- an operation that makes a block -/
theorem Inv.make {B : Bk} (hk : R.k = .alloc B) (hna : R.na = R.nb + 1) {cs : Array Value} (hB : BR (r.cut R.nb) (w.alloc (.cells cs B.e)) B w.heap.size cs.size) (u : Value)
    (hu : ∀ v, R.v = some v → VR ((r.add R.nb (w.heap.size, cs.size)).cut R.na) v u) : Inv E rs efs r0 w0 (listed.setIfInBounds i true) (a.put o.dst u) (w.alloc (.cells cs B.e)) (r.add R.nb (w.heap.size, cs.size)) eD later := by
  have hi := (Array.getElem?_eq_some_iff.1 ho).1
  have hil : i < listed.size := by rw [I.size]; exact hi
  have lo0 : E.s0.nx ≤ R.nb := by
    obtain ⟨R', q1, q2, q3, q4, q5⟩ := F.all i o hi ho
    rw [hR] at q1
    injection q1 with q1
    subst q1
    exact q3
  have hnone : r R.nb = none := nb_fresh h F I ho hR hn hed (by omega) R.nb (Nat.le_refl _) (by omega)
  have hle := Nm.le_add hnone (w.heap.size, cs.size)
  obtain ⟨f1, f2, f3, f4⟩ := put_frame h F I ho hR hn hed hle (fun _ _ _ _ _ _ => trivial) u hu
  have back : ∀ {q : Nat}, Li (listed.setIfInBounds i true) q → q ≠ i → Li listed q := fun {q} hl hq => ((Li_set hil q).1 hl).resolve_left hq
  have recI : ∀ {S : Rec}, rs.get i = some S → S = R := fun {S} hS => by rw [hR] at hS; injection hS with hS; exact hS.symm
  have old : ∀ b, b < w.heap.size → (w.alloc (.cells cs B.e)).heap[b]? = w.heap[b]? := fun b hb => heap_alloc_old w _ hb
  have radd : ∀ k, k ≠ R.nb → (r.add R.nb (w.heap.size, cs.size)) k = r k := fun k hk => by unfold Nm.add; rw [if_neg hk]
  have kne : ∀ {k : Nat} {x : Nat × Nat}, r k = some x → k ≠ R.nb := fun {k x} hx e => by subst e; rw [hnone] at hx; cases hx
  have pold : ∀ q S D, Li (listed.setIfInBounds i true) q → q ≠ i → rs.get q = some S → S.k = .alloc D → pendB E (lastE eD) q → ∃ b sz, (r.add R.nb (w.heap.size, cs.size)) S.nb = r S.nb ∧ r S.nb = some (b, sz) ∧ BR (r.cut S.na) w D b sz ∧ w0.heap.size ≤ b ∧ ∀ k D s, (E.after rs (lastE eD)).get k = some D → r k ≠ some (b, s) := fun q S D hl hq hS hD hp => by
    obtain ⟨b, sz, p1, p2, p3, p4⟩ := I.pend q S D (back hl hq) hS hD hp
    exact ⟨b, sz, radd _ (kne p1), p1, p2, p3, p4⟩
  refine ⟨by simpa using I.size, clo_set h F I ho hR hn hed, I.efs_eq, fun e he => (Li_set hil e).2 (.inr (I.eD_in e he)), fun e he hl => ?_, f1, f2, f3, f4,
    (I.hp.mono (cut_le hle (Nat.le_refl _))).keepW (w := w) (fun j D b s hj hr => old b ?_), fun q S D hl hS hD hp => ?_, fun q S D q' S' D' b s s' hl hS hD hp hl' hS' hD' hp' hb hb' => ?_, fun k x hk' => ?_, Nm.le_trans I.le0 hle, fun k hk' => (radd k (by have := lo0; omega)).trans (I.low0 k hk'), I.os, I.tape, I.output,
    Nat.le_trans I.wsz (by simp), fun b hb hno => (old b (Nat.lt_of_lt_of_le hb I.wsz)).trans (I.blk b hb hno), fun k D b s hk' hr => ?_⟩
  · rcases (Li_set hil e).1 hl with rfl | hl
    · obtain ⟨_, S, ha, hS, hSk⟩ := F.eff e (by rw [I.efs_eq]; exact List.mem_append_left _ he)
      rw [recI hS, hk] at hSk
      cases hSk
    · exact I.later_out e he hl
  · obtain ⟨b', s', h1, _, h3⟩ := after_at h F I ho hR hn hed hj
    have := cut_le_self _ _ _ _ hr
    rw [hle _ _ h1] at this
    injection this with this
    injection this with e1 _
    omega
  · by_cases hq : q = i
    · subst hq
      have := recI hS
      subst this
      rw [hk] at hD
      injection hD with hD
      subst hD
      refine ⟨_, _, Nm.add_at _ _ _, hB.mono (cut_le hle (by omega)), I.wsz, fun k D' s hk' hr => ?_⟩
      obtain ⟨b', s', h1, _, h3⟩ := after_at h F I ho hR hn hed hk'
      rw [hle _ _ h1] at hr
      injection hr with hr
      injection hr with e1 _
      omega
    · obtain ⟨b, sz, p0, p1, p2, p3, p4⟩ := pold q S D hl hq hS hD hp
      refine ⟨b, sz, by rw [p0]; exact p1, (p2.mono (cut_le hle (Nat.le_refl _))).keep (old b p2.lt), p3, fun k D' s hk' hr => ?_⟩
      obtain ⟨b', s', h1, _, h3⟩ := after_at h F I ho hR hn hed hk'
      rw [radd k (kne h1)] at hr
      exact p4 k D' s hk' hr
  · by_cases hq : q = i <;> by_cases hq' : q' = i
    · rw [hq, hq']
    · subst hq
      have := recI hS
      subst this
      obtain ⟨c, sz, p0, p1, p2, _⟩ := pold q' S' D' hl' hq' hS' hD' hp'
      rw [p0, p1] at hb'
      rw [Nm.add_at] at hb
      injection hb with hb; injection hb with e1 _
      injection hb' with hb'; injection hb' with e2 _
      have := p2.lt
      omega
    · subst hq'
      have := recI hS'
      subst this
      obtain ⟨c, sz, p0, p1, p2, _⟩ := pold q S D hl hq hS hD hp
      rw [p0, p1] at hb
      rw [Nm.add_at] at hb'
      injection hb with hb; injection hb with e1 _
      injection hb' with hb'; injection hb' with e2 _
      have := p2.lt
      omega
    · obtain ⟨c, sz, p0, _⟩ := pold q S D hl hq hS hD hp
      obtain ⟨c', sz', p0', _⟩ := pold q' S' D' hl' hq' hS' hD' hp'
      rw [p0] at hb
      rw [p0'] at hb'
      exact I.pinj q S D q' S' D' b s s' (back hl hq) hS hD hp (back hl' hq') hS' hD' hp' hb hb'
  · by_cases e : k = R.nb
    · exact .inr ⟨i, R, (Li_set hil i).2 (.inl rfl), hR, by omega, by omega⟩
    · rw [radd k e] at hk'
      rcases I.born k x hk' with hb | ⟨j, S, hl, hS, hb⟩
      · exact .inl hb
      · exact .inr ⟨j, S, (Li_set hil j).2 (.inr hl), hS, hb⟩
  · obtain ⟨b', s', h1, _, h3⟩ := after_at h F I ho hR hn hed hk'
    rw [radd k (kne h1)] at hr
    exact I.own k D b s hk' hr
end
end Go.Proofs.YtgilghiegfgjeaaGreatDoor
end
section
set_option linter.unusedVariables false
set_option linter.unusedSimpArgs false
/- Running closed code: effects in a drawn region. -/
namespace Go.Proofs.YtgilghiegfgjeaaGreatDoor
open Go.RowKit
set_option linter.unusedVariables false
set_option linter.unusedSectionVars false

/-- what is in the memory ahead of an effect -/
theorem merge_get {E : Env} {rs : Tr Rec} {p : Option Nat} {i k : Nat} {B : Bk} : ∀ (q : Nat), (E.merge rs p i q).get k = some B → (E.after rs p).get k = some B ∨ ∃ j S, j < q ∧ rs.get j = some S ∧ S.k = .alloc B ∧ S.nb = k ∧ E.isAnc j i = true ∧ pendB E p j
  | 0, e => .inl e
  | q + 1, e => by
    have lift : ((E.after rs p).get k = some B ∨ ∃ j S, j < q ∧ rs.get j = some S ∧ S.k = .alloc B ∧ S.nb = k ∧ E.isAnc j i = true ∧ pendB E p j) → ((E.after rs p).get k = some B ∨ ∃ j S, j < q + 1 ∧ rs.get j = some S ∧ S.k = .alloc B ∧ S.nb = k ∧ E.isAnc j i = true ∧ pendB E p j) := fun h => by
      rcases h with h | ⟨j, S, h1, h2⟩
      · exact .inl h
      · exact .inr ⟨j, S, by omega, h2⟩
    unfold Env.merge at e
    split at e
    · rename_i v nb na D hq
      split at e
      · rename_i hc
        simp only [Bool.and_eq_true, Bool.not_eq_true'] at hc
        rw [Tr.get_set] at e
        split at e
        · rename_i hkn
          injection e with e
          subst e
          exact .inr ⟨q, _, Nat.lt_succ_self _, hq, rfl, hkn.symm, hc.1, hc.2⟩
        · exact lift (merge_get q e)
      · exact lift (merge_get q e)
    · exact lift (merge_get q e)
section
variable {E : Env} (h : EnvOk E) {rs : Tr Rec} {efs : List Nat} {nxE : Nat} (F : FxQ E E.ops.size rs efs nxE) {r0 : Nm} {w0 : World} {listed : Array Bool} {a : Act} {w : World} {r : Nm} {eD later : List Nat}
  (I : Inv E rs efs r0 w0 listed a w r eD later) {i : Nat} {o : Oper} {R : Rec} (ho : E.ops[i]? = some o) (hR : rs.get i = some R) (hn : ¬ Li listed i) (hed : ∀ e ∈ o.after.toList, Region.binds .any e = true → Li listed e.on)
include h F I ho hR hn hed
/-- behind which effect it stands -/
theorem eff_rest {ha : Hp} (hk : R.k = .eff ha) : (∃ later', later = later' ++ [i]) ∧ (∀ e, lastE eD = some e → E.isAnc e i = true) ∧ opMem E.P E.ext E.call (E.ev rs i) (E.merge rs (lastE eD) i i) R.nb o.op = some (R.v, ha, R.na) := by
  have hi := (Array.getElem?_eq_some_iff.1 ho).1
  obtain ⟨R', q1, q2, q3, q4, q5⟩ := F.all i o hi ho
  rw [hR] at q1
  injection q1 with q1
  subst q1
  unfold OpF at q2
  rw [hk] at q2
  obtain ⟨_, rest, hsuf, hch, hm⟩ := q2
  have hD : ∀ i j, i < E.ops.size → Li listed i → E.isAnc j i = true → Li listed j := fun i j hi hl ha => closed_anc h (D := Li listed) I.clo i _ (Array.getElem?_eq_getElem hi) (I.clo i _ hl (Array.getElem?_eq_getElem hi)) j ha
  have hrest := chain_listed h F hD rest i hsuf (fun j hj => closed_anc h (D := Li listed) I.clo i o ho hed j hj)
  obtain ⟨pre, hpre⟩ := hsuf
  have heq := I.efs_eq
  rw [← hpre] at heq
  have key : ∀ (l m : List Nat), pre ++ i :: rest = l ++ m → (∀ e ∈ l, ¬ Li listed e) → (∀ e ∈ m, Li listed e) → l = pre ++ [i] ∧ m = rest := fun l m e h1 h2 => by
    rcases List.append_eq_append_iff.1 e with ⟨x, e1, e2⟩ | ⟨x, e1, e2⟩
    · cases x with
      | nil =>
        simp at e2
        exact absurd (h2 i (by rw [← e2]; simp)) hn
      | cons y x =>
        simp only [List.cons_append] at e2
        injection e2 with e2 e3
        subst e2
        cases x with
        | nil => exact ⟨e1, by simpa using e3.symm⟩
        | cons z x =>
          have hz : z ∈ rest := by rw [e3]; simp
          exact absurd (hrest z hz) (h1 z (by rw [e1]; simp))
    · exact absurd (h2 i (by rw [e2]; simp)) hn
  obtain ⟨k1, k2⟩ := key later eD heq I.later_out I.eD_in
  subst k2
  exact ⟨⟨pre, k1⟩, hch, hm⟩
theorem pend_nb {q : Nat} {S : Rec} {D : Bk} (hl : Li listed q) (hS : rs.get q = some S) (hD : S.k = .alloc D) : S.na = S.nb + 1 := by
  have hq : q < E.ops.size := by
    have := I.size
    unfold Li at hl
    rcases Nat.lt_or_ge q listed.size with h' | h'
    · omega
    · simp [Array.getElem?_eq_none h'] at hl
  obtain ⟨R', q1, q2, _⟩ := F.all q _ hq (Array.getElem?_eq_getElem hq)
  rw [hS] at q1
  injection q1 with q1
  subst q1
  unfold OpF at q2
  rw [hD] at q2
  obtain ⟨_, m, _, _, e⟩ := q2
  exact e
theorem naOf_le (hch : ∀ e, lastE eD = some e → E.isAnc e i = true) : naOf E rs (lastE eD) ≤ R.nb := by
  have hi := (Array.getElem?_eq_some_iff.1 ho).1
  obtain ⟨R', q1, q2, q3, q4, q5⟩ := F.all i o hi ho
  rw [hR] at q1
  injection q1 with q1
  subst q1
  cases hl : lastE eD with
  | none => exact q3
  | some e =>
    have hlt := isAnc_lt h i e hi (hch e hl)
    obtain ⟨S, g1, _⟩ := F.all e _ (by omega) (Array.getElem?_eq_getElem (by omega : e < E.ops.size))
    show (match rs.get e with | some R => R.na | none => 0) ≤ R.nb
    rw [g1]
    exact F.ord e i S R hlt hi g1 hR
/-- where the blocks ahead of the effect are -/
theorem merge_at (hch : ∀ e, lastE eD = some e → E.isAnc e i = true) {k : Nat} {B : Bk} (e : (E.merge rs (lastE eD) i i).get k = some B) :
    ∃ b sz, (r.cut R.nb) k = some (b, sz) ∧ BR (r.cut R.nb) w B b sz ∧ (((E.after rs (lastE eD)).get k = some B) ∨ ∃ q S, Li listed q ∧ rs.get q = some S ∧ S.k = .alloc B ∧ S.nb = k ∧ E.isAnc q i = true ∧ pendB E (lastE eD) q ∧ r S.nb = some (b, sz)) := by
  have hi := (Array.getElem?_eq_some_iff.1 ho).1
  have hle := naOf_le h F I ho hR hn hed hch
  rcases merge_get i e with e1 | ⟨q, S, hq, hS, hD, rfl, hanc, hp⟩
  · obtain ⟨b, sz, h1, h2⟩ := I.hp.at_ k B e1
    have hc := cut_le (Nm.le_refl r) hle
    exact ⟨b, sz, hc _ _ h1, h2.mono hc, .inl e1⟩
  · have hl := closed_anc h (D := Li listed) I.clo i o ho hed q hanc
    obtain ⟨b, sz, h1, h2, h3, h4⟩ := I.pend q S B hl hS hD hp
    have hsn := F.ord q i S R hq hi hS hR
    have hna := pend_nb h F I ho hR hn hed hl hS hD
    exact ⟨b, sz, cut_at h1 (by simp [Nat.blt_eq]; omega), h2.mono (cut_le (Nm.le_refl r) hsn), .inr ⟨q, S, hl, hS, hD, rfl, hanc, hp, h1⟩⟩
theorem merge_ok (hch : ∀ e, lastE eD = some e → E.isAnc e i = true) : RelH (r.cut R.nb) (E.merge rs (lastE eD) i i) w := by
  refine ⟨fun k B hk => ?_, fun k j B D b s t hk hj rk rj => ?_⟩
  · obtain ⟨b, sz, h1, h2, _⟩ := merge_at h F I ho hR hn hed hch hk
    exact ⟨b, sz, h1, h2⟩
  · obtain ⟨b1, s1, h1, _, k1⟩ := merge_at h F I ho hR hn hed hch hk
    obtain ⟨b2, s2, h2, _, k2⟩ := merge_at h F I ho hR hn hed hch hj
    rw [rk] at h1
    rw [rj] at h2
    injection h1 with h1; injection h1 with h1 h1'
    injection h2 with h2; injection h2 with h2 h2'
    subst h1 h2 h1' h2'
    have rk' := cut_le_self _ _ _ _ rk
    have rj' := cut_le_self _ _ _ _ rj
    rcases k1 with k1 | ⟨q, S, hl, hS, hD, rfl, _, hp, h3⟩ <;> rcases k2 with k2 | ⟨q', S', hl', hS', hD', rfl, _, hp', h3'⟩
    · obtain ⟨b1, s1, g1, _⟩ := I.hp.at_ k B k1
      obtain ⟨b2, s2, g2, _⟩ := I.hp.at_ j D k2
      have e1 := cut_le_self _ _ _ _ g1
      have e2 := cut_le_self _ _ _ _ g2
      rw [rk'] at e1
      rw [rj'] at e2
      injection e1 with e1
      injection e2 with e2
      exact I.hp.inj k j B D b s t k1 k2 (by rw [g1, e1]) (by rw [g2, e2])
    · obtain ⟨b2, s2, p1, _, _, p4⟩ := I.pend q' S' D hl' hS' hD' hp'
      rw [rj'] at p1
      injection p1 with p1; injection p1 with p1 _
      subst p1
      exact absurd rk' (p4 k B s k1)
    · obtain ⟨b2, s2, p1, _, _, p4⟩ := I.pend q S B hl hS hD hp
      rw [rk'] at p1
      injection p1 with p1; injection p1 with p1 _
      subst p1
      exact absurd rj' (p4 j D t k2)
    · have := I.pinj q S B q' S' D b s t hl hS hD hp hl' hS' hD' hp' rk' rj'
      subst this
      rw [hS] at hS'
      injection hS' with hS'
      rw [hS']
def joinN (n : Nat) (s r : Nm) : Nm := fun k => if k < n then s k else r k
/-- an effect -/
theorem Inv.eff {ha : Hp} (hk : R.k = .eff ha) {later' : List Nat} (hlat : later = later' ++ [i]) (hch : ∀ e, lastE eD = some e → E.isAnc e i = true) {s : Nm} {w' : World} (hmv : Mv R.nb (r.cut R.nb) (E.merge rs (lastE eD) i i) w R.na s ha w') (hfr : fresh s R.na) (u : Value)
    (hu : ∀ v, R.v = some v → VR s v u) : Inv E rs efs r0 w0 (listed.setIfInBounds i true) (a.put o.dst u) w' (joinN R.na s r) (i :: eD) later' := by
  have hi := (Array.getElem?_eq_some_iff.1 ho).1
  have hil : i < listed.size := by rw [I.size]; exact hi
  have hcut : (joinN R.na s r).cut R.na = s := by
    funext k
    unfold Nm.cut joinN
    by_cases e : k < R.na
    · rw [if_pos e, if_pos e]
    · rw [if_neg e]; exact (hfr k (by omega)).symm
  have low : ∀ k, k < R.nb → s k = r k := fun k hk => by rw [hmv.low k hk]; unfold Nm.cut; rw [if_pos hk]
  have hle : r.le (joinN R.na s r) := fun k x hx => by
    unfold joinN
    by_cases e : k < R.na
    · rw [if_pos e]
      by_cases e2 : k < R.nb
      · rw [low k e2]; exact hx
      · rw [nb_fresh h F I ho hR hn hed (by omega) k (by omega) e] at hx; cases hx
    · rw [if_neg e]; exact hx
  obtain ⟨f1, f2, f3, f4⟩ := put_frame h F I ho hR hn hed hle (fun _ _ _ _ _ _ => trivial) u (fun v hv => by rw [hcut]; exact hu v hv)
  have recI : ∀ {S : Rec}, rs.get i = some S → S = R := fun {S} hS => by rw [hR] at hS; injection hS with hS; exact hS.symm
  have haf : E.after rs (lastE (i :: eD)) = ha := by
    show (match rs.get i with | some ⟨_, _, _, .eff ha⟩ => ha | _ => .nil) = ha
    rw [hR]
    obtain ⟨v, nb, na, kd⟩ := R
    simp only at hk
    subst hk
    rfl
  have hnaOf : naOf E rs (lastE (i :: eD)) = R.na := by
    show (match rs.get i with | some R => R.na | none => 0) = R.na
    rw [hR]
  -- a block that waits is no block of the memory ahead
  have notin : ∀ q S D b sz, Li listed q → rs.get q = some S → S.k = .alloc D → pendB E (lastE eD) q → E.isAnc q i = false → r S.nb = some (b, sz) → ∀ k B t, (E.merge rs (lastE eD) i i).get k = some B → (r.cut R.nb) k ≠ some (b, t) := fun q S D b sz hl hS hD hp hna hb k B t hkB hkt => by
    obtain ⟨b', s', h1, _, k1⟩ := merge_at h F I ho hR hn hed hch hkB
    rw [hkt] at h1
    injection h1 with h1; injection h1 with h1 h1'
    subst h1 h1'
    have hkt' := cut_le_self _ _ _ _ hkt
    rcases k1 with k1 | ⟨q', S', hl', hS', hD', rfl, hanc, hp', h3'⟩
    · obtain ⟨b2, s2, p1, _, _, p4⟩ := I.pend q S D hl hS hD hp
      rw [hb] at p1
      injection p1 with p1; injection p1 with p1 _
      subst p1
      exact p4 k B t k1 hkt'
    · have := I.pinj q S D q' S' B b sz t hl hS hD hp hl' hS' hD' hp' hb hkt'
      subst this
      rw [hna] at hanc; cases hanc
  have pold : ∀ q S D, Li (listed.setIfInBounds i true) q → rs.get q = some S → S.k = .alloc D → pendB E (lastE (i :: eD)) q → Li listed q ∧ pendB E (lastE eD) q ∧ E.isAnc q i = false := fun q S D hl hS hD hp => by
    have hqi : q ≠ i := by
      rintro rfl
      rw [recI hS, hk] at hD
      cases hD
    have hp' : E.isAnc q i = false := hp
    refine ⟨((Li_set hil q).1 hl).resolve_left hqi, ?_, hp'⟩
    unfold pendB
    cases hl : lastE eD with
    | none => rfl
    | some e =>
      show E.isAnc q e = false
      cases hc : E.isAnc q e with
      | false => rfl
      | true => rw [isAnc_trans h i e q hi (hch e hl) hc] at hp'; cases hp'
  have inS : ∀ {k : Nat} {D : Bk} {b t : Nat}, ha.get k = some D → (joinN R.na s r) k = some (b, t) → s k = some (b, t) := fun {k D b t} hkD hb => by
    obtain ⟨b', s', h1, _⟩ := hmv.rel.at_ k D hkD
    have hlt : k < R.na := by
      rcases Nat.lt_or_ge k R.na with e | e
      · exact e
      · rw [hfr k e] at h1; cases h1
    unfold joinN at hb
    rw [if_pos hlt] at hb
    exact hb
  refine ⟨by simpa using I.size, clo_set h F I ho hR hn hed, by rw [I.efs_eq, hlat]; simp, fun e he => ?_, fun e he hl => ?_, f1, f2, f3, f4,
    by rw [haf, hnaOf, hcut]; exact hmv.rel, fun q S D hl hS hD hp => ?_, fun q S D q' S' D' b s1 s2 hl hS hD hp hl' hS' hD' hp' hb hb' => ?_, fun k x hk' => ?_, Nm.le_trans I.le0 hle, fun k hk' => ?_, hmv.os.trans I.os, hmv.tape.trans I.tape, hmv.output.trans I.output,
    Nat.le_trans I.wsz hmv.size, fun b hb hno => ?_, fun k D b t hk' hr => ?_⟩
  · rcases List.mem_cons.1 he with rfl | he
    · exact (Li_set hil _).2 (.inl rfl)
    · exact (Li_set hil e).2 (.inr (I.eD_in e he))
  · have hel : e ∈ later := by rw [hlat]; exact List.mem_append_left _ he
    rcases (Li_set hil e).1 hl with rfl | hl
    · have hd := F.dec
      rw [I.efs_eq, hlat] at hd
      have := (List.pairwise_append.1 (List.pairwise_append.1 hd).1).2.2 e he e (by simp)
      omega
    · exact I.later_out e hel hl
  · obtain ⟨hl', hp', hna⟩ := pold q S D hl hS hD hp
    obtain ⟨b, sz, p1, p2, p3, p4⟩ := I.pend q S D hl' hS hD hp'
    have hno := notin q S D b sz hl' hS hD hp' hna p1
    refine ⟨b, sz, hle _ _ p1, (p2.mono (cut_le hle (Nat.le_refl _))).keep (hmv.block b p2.lt hno), p3, fun k B t hkB hr => ?_⟩
    rw [haf] at hkB
    rcases hmv.own k B b t hkB (inS hkB hr) with e | ⟨j, B', t', e1, e2⟩
    · have := p2.lt; omega
    · exact hno j B' t' e1 e2
  · obtain ⟨g1, g2, g3⟩ := pold q S D hl hS hD hp
    obtain ⟨g1', g2', g3'⟩ := pold q' S' D' hl' hS' hD' hp'
    obtain ⟨c, sz, p1, _⟩ := I.pend q S D g1 hS hD g2
    obtain ⟨c', sz', p1', _⟩ := I.pend q' S' D' g1' hS' hD' g2'
    rw [hle _ _ p1] at hb
    rw [hle _ _ p1'] at hb'
    injection hb with hb; injection hb with e1 _
    injection hb' with hb'; injection hb' with e2 _
    exact I.pinj q S D q' S' D' b sz sz' g1 hS hD g2 g1' hS' hD' g2' (by rw [p1, e1]) (by rw [p1', e2])
  · unfold joinN at hk'
    by_cases e : k < R.na
    · rw [if_pos e] at hk'
      by_cases e2 : k < R.nb
      · rw [low k e2] at hk'
        rcases I.born k x hk' with hb | ⟨j, S, hl, hS, hb⟩
        · exact .inl hb
        · exact .inr ⟨j, S, (Li_set hil j).2 (.inr hl), hS, hb⟩
      · exact .inr ⟨i, R, (Li_set hil i).2 (.inl rfl), hR, by omega, e⟩
    · rw [if_neg e] at hk'
      rcases I.born k x hk' with hb | ⟨j, S, hl, hS, hb⟩
      · exact .inl hb
      · exact .inr ⟨j, S, (Li_set hil j).2 (.inr hl), hS, hb⟩
  · obtain ⟨R', q1, q2, q3, q4, q5⟩ := F.all i o hi ho
    rw [hR] at q1
    injection q1 with q1
    subst q1
    unfold joinN
    rw [if_pos (by omega), low k (by omega)]
    exact I.low0 k hk'
  · refine (hmv.block b (Nat.lt_of_lt_of_le hb I.wsz) fun k B t hkB hkt => ?_).trans (I.blk b hb hno)
    obtain ⟨b', s', h1, _, k1⟩ := merge_at h F I ho hR hn hed hch hkB
    rw [hkt] at h1
    injection h1 with h1; injection h1 with h1 h1'
    subst h1 h1'
    have hkt' := cut_le_self _ _ _ _ hkt
    rcases k1 with k1 | ⟨q', S', hl', hS', hD', rfl, hanc, hp', h3'⟩
    · rcases I.own k B b t k1 hkt' with e | ⟨j, D, t', e1, e2⟩
      · omega
      · exact hno j D t' e1 e2
    · obtain ⟨b2, s2, p1, _, p3, _⟩ := I.pend q' S' B hl' hS' hD' hp'
      rw [hkt'] at p1
      injection p1 with p1; injection p1 with p1 _
      subst p1
      omega
  · rw [haf] at hk'
    rcases hmv.own k D b t hk' (inS hk' hr) with e | ⟨j, B, t', e1, e2⟩
    · exact .inl (Nat.le_trans I.wsz e)
    · obtain ⟨b', s', h1, _, k1⟩ := merge_at h F I ho hR hn hed hch e1
      rw [e2] at h1
      injection h1 with h1; injection h1 with h1 h1'
      subst h1 h1'
      have hkt' := cut_le_self _ _ _ _ e2
      rcases k1 with k1 | ⟨q', S', hl', hS', hD', rfl, hanc, hp', h3'⟩
      · exact I.own j B b t' k1 hkt'
      · obtain ⟨b2, s2, p1, _, p3, _⟩ := I.pend q' S' B hl' hS' hD' hp'
        rw [hkt'] at p1
        injection p1 with p1; injection p1 with p1 _
        subst p1
        exact .inl p3
end
end Go.Proofs.YtgilghiegfgjeaaGreatDoor
end
section
set_option linter.unusedVariables false
set_option linter.unusedSimpArgs false
/- Running closed code: regions that draw their order. -/
namespace Go.Proofs.YtgilghiegfgjeaaGreatDoor
open Go.RowKit
set_option linter.unusedVariables false
set_option linter.unusedSectionVars false

theorem fresh_cut (r : Nm) (n : Nat) : fresh (r.cut n) n := fun j hj => by unfold Nm.cut; rw [if_neg (by omega)]
section
variable {E : Env} (h : EnvOk E) {rs : Tr Rec} {efs : List Nat} {nxE : Nat} (F : FxQ E E.ops.size rs efs nxE) {r0 : Nm} {w0 : World}
include h F
/-- one operation, whichever comes up -/
theorem any_step (hext : ExtS E.P E.ext) (hcall : CallS E.P E.call) (S : StabF E rs efs) {listed : Array Bool} {a : Act} {w : World} {r : Nm} {eD later : List Nat}
    (I : Inv E rs efs r0 w0 listed a w r eD later) {i : Nat} {o : Oper} (ho : E.ops[i]? = some o) (hn : ¬ Li listed i) (hed : ∀ e ∈ o.after.toList, Region.binds .any e = true → Li listed e.on) {K : Act → World → Prop} {Q : Exit → Act → World → Prop}
    (hK : ∀ a' w' r' eD' later', Inv E rs efs r0 w0 (listed.setIfInBounds i true) a' w' r' eD' later' → K a' w') : wpOp E.P E.ops Q i K a w := by
  have hi := (Array.getElem?_eq_some_iff.1 ho).1
  obtain ⟨R, hR, hf, q3, q4, q5⟩ := F.all i o hi ho
  have he := fun x v (e : E.ev rs i x = some v) => ev_ok h F I ho hR hn hed e
  unfold wpOp
  rw [ho]
  simp only
  have hf2 := hf
  unfold OpF at hf2
  split at hf2
  · rename_i hk
    rw [if_neg (by rw [want_ok h F I ho hR hn hed hf2.1]; exact Bool.false_ne_true)]
    exact hK _ _ _ _ _ (Inv.quiet h F I ho hR hn hed (fun B e => by rw [hk] at e; cases e) (fun B e => by rw [hk] at e; cases e) undef (fun v hv => by rw [hf2.2.1] at hv; injection hv with hv; subst hv; exact .t .nil))
  · rename_i hk
    obtain ⟨hw, v, hv, hp, hna⟩ := hf2
    rw [if_pos (want_ok h F I ho hR hn hed hw)]
    left
    obtain ⟨u, hu, hrun⟩ := opPure_ok (P := E.P) he hp
    unfold Oper.wp
    rw [hrun w]
    exact hK _ _ _ _ _ (Inv.quiet h F I ho hR hn hed (fun B e => by rw [hk] at e; cases e) (fun B e => by rw [hk] at e; cases e) u (fun v' hv' => by
      rw [hv] at hv'; injection hv' with hv'; subst hv'; rw [hna]; exact hu))
  · rename_i hk
    rw [if_pos (want_ok h F I ho hR hn hed hf2.1)]
    left
    obtain ⟨t, x, u, hop, hu, hrun⟩ := load_ok h F I ho hR hn hed S hk
    unfold Oper.wp
    rw [hrun]
    exact hK _ _ _ _ _ (Inv.quiet h F I ho hR hn hed (fun B e => by rw [hk] at e; cases e) (fun B e => by rw [hk] at e; cases e) u hu)
  · rename_i B hk
    obtain ⟨hw, m, hm, hv, hna⟩ := hf2
    rw [if_pos (want_ok h F I ho hR hn hed hw)]
    left
    obtain ⟨cs, hrun, hB, hmd⟩ := opAlloc_ok he hm w
    unfold Oper.wp
    rw [hrun]
    have hnone : r R.nb = none := nb_fresh h F I ho hR hn hed (by omega) R.nb (Nat.le_refl _) (by omega)
    refine hK _ _ _ _ _ (Inv.make h F I ho hR hn hed hk hna hB _ fun v' hv' => ?_)
    rw [hv] at hv'
    injection hv' with hv'
    subst hv'
    have hat : ((r.add R.nb (w.heap.size, cs.size)).cut R.na) R.nb = some (w.heap.size, cs.size) := cut_at (Nm.add_at _ _ _) (by simp [Nat.blt_eq]; omega)
    exact .w (.c (madeC_ok hat m hmd))
  · rename_i ha hk
    obtain ⟨⟨later', hlat⟩, hch, hm⟩ := eff_rest h F I ho hR hn hed hk
    rw [if_pos (want_ok h F I ho hR hn hed hf2.1)]
    left
    refine opMem_ok hext hcall he (merge_ok h F I ho hR hn hed hch) (fresh_cut r R.nb) hm K Q fun u w' ⟨s, hmv, hfr, hv⟩ => ?_
    refine hK _ _ _ _ _ (Inv.eff h F I ho hR hn hed hk hlat hch hmv hfr _ fun v' hv' => ?_)
    rcases hv with ⟨e1, _⟩ | ⟨x, y, e1, e2, hxy⟩
    · rw [e1] at hv'; cases hv'
    · rw [e1] at hv'; injection hv' with hv'; subst hv' e2; exact hxy
end
/-! ### Counting -/
def unl (listed : Array Bool) : Nat → Nat
  | 0 => 0
  | n + 1 => unl listed n + (if listed.getD n false = true then 0 else 1)
theorem unl_set {listed : Array Bool} {i : Nat} (hi : i < listed.size) (hn : ¬ Li listed i) : ∀ n, (n ≤ i → unl (listed.setIfInBounds i true) n = unl listed n) ∧ (i < n → unl (listed.setIfInBounds i true) n + 1 = unl listed n)
  | 0 => ⟨fun _ => rfl, fun h => by omega⟩
  | n + 1 => by
    obtain ⟨h1, h2⟩ := unl_set hi hn n
    have key : n ≠ i → (listed.setIfInBounds i true).getD n false = listed.getD n false := fun e => Go.getD_set_ne false (Ne.symm e)
    refine ⟨fun h => ?_, fun h => ?_⟩
    · unfold unl
      rw [h1 (by omega), key (by omega)]
    · by_cases e : n = i
      · subst e
        unfold unl
        have e1 : (listed.setIfInBounds n true).getD n false = true := (Li_set hi n).2 (.inl rfl)
        have e2 : ¬ listed.getD n false = true := hn
        rw [h1 (Nat.le_refl _), if_pos e1, if_neg e2]
      · unfold unl
        rw [key e, ← h2 (by omega)]
        omega
theorem unl_zero {listed : Array Bool} : ∀ {n : Nat}, unl listed n = 0 → ∀ j, j < n → Li listed j
  | 0, _, j, hj => by omega
  | n + 1, h, j, hj => by
    unfold unl at h
    by_cases e : j = n
    · subst e
      by_cases hl : listed.getD j false = true
      · exact hl
      · rw [if_neg hl] at h; omega
    · exact unl_zero (n := n) (by omega) j (by omega)
theorem unl_le {listed : Array Bool} : ∀ n, unl listed n ≤ n
  | 0 => Nat.le_refl _
  | n + 1 => by
    have := unl_le (listed := listed) n
    unfold unl
    split <;> omega
section
variable {E : Env} (h : EnvOk E) {rs : Tr Rec} {efs : List Nat} {nxE : Nat} (F : FxQ E E.ops.size rs efs nxE) {r0 : Nm} {w0 : World}
include h F
omit F in
theorem none_ready {listed : Array Bool} (hsz : listed.size = E.ops.size) (hr : Region.ready .any E.ops listed = []) : ∀ j, j < E.ops.size → Li listed j := by
  intro j
  induction j using Nat.strongRecOn with
  | _ j ih =>
    intro hj
    have ho : E.ops[j]? = some E.ops[j] := Array.getElem?_eq_getElem hj
    obtain ⟨a, h1, h2⟩ := h.anc j _ ho
    cases hl : listed.getD j true with
    | true =>
      have hjs : j < listed.size := by omega
      unfold Li
      simp [hjs] at hl ⊢
      exact hl
    | false =>
      have : j ∈ Region.ready .any E.ops listed := mem_ready.2 ⟨hl, _, ho, fun e he hb => by
        have hm := edgesB_sup _ _ h2 e (by simpa using he) hb
        have hanc : E.isAnc e.on j = true := by unfold Env.isAnc; rw [h1]; exact hm.1
        have hlt := isAnc_lt h j _ hj hanc
        exact ih e.on hlt (by omega)⟩
      rw [hr] at this
      cases this
theorem any_ok (hext : ExtS E.P E.ext) (hcall : CallS E.P E.call) (S : StabF E rs efs) {Q : Exit → Act → World → Prop}
    (hQ : ∀ listed a w r eD later, Inv E rs efs r0 w0 listed a w r eD later → (∀ j, j < E.ops.size → Li listed j) → Q .normal a w) :
    ∀ (fuel : Nat) (listed : Array Bool) (a : Act) (w : World) (r : Nm) (eD later : List Nat), Inv E rs efs r0 w0 listed a w r eD later → unl listed E.ops.size ≤ fuel → wpAny E.P .any E.ops Q fuel listed a w
  | 0, listed, a, w, r, eD, later, I, hu => by
    have hall := unl_zero (by omega : unl listed E.ops.size = 0)
    refine ⟨?_, hQ _ _ _ _ _ _ I hall⟩
    refine List.eq_nil_iff_forall_not_mem.2 fun j hj => ?_
    obtain ⟨h0, o, ho, _⟩ := mem_ready.1 hj
    have hjo := (Array.getElem?_eq_some_iff.1 ho).1
    have := hall j hjo
    have hjs : j < listed.size := by rw [I.size]; exact hjo
    unfold Li at this
    simp [hjs] at this h0
    rw [this] at h0
    cases h0
  | fuel + 1, listed, a, w, r, eD, later, I, hu => by
    refine ⟨fun hr => hQ _ _ _ _ _ _ I (none_ready h I.size hr), fun i hi => ?_⟩
    obtain ⟨h0, o, ho, hall⟩ := mem_ready.1 hi
    have hio := (Array.getElem?_eq_some_iff.1 ho).1
    have his : i < listed.size := by rw [I.size]; exact hio
    have hn : ¬ Li listed i := fun hl => by
      unfold Li at hl
      simp [his] at hl h0
      rw [hl] at h0
      cases h0
    refine any_step h F hext hcall S I ho hn (fun e he hb => hall e (by simpa using he) hb) fun a' w' r' eD' later' I' => ?_
    refine any_ok hext hcall S hQ fuel _ a' w' r' eD' later' I' ?_
    have := (unl_set his hn E.ops.size).2 hio
    omega
end
end Go.Proofs.YtgilghiegfgjeaaGreatDoor
end
