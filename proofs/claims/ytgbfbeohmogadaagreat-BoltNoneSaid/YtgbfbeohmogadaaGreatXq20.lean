/- Running closed code: the state in the middle of a drawn region, whatever order was drawn; operations that make no effect. -/
import Derived.Test.YtgbfbeohmogadaaGreatXq19
namespace Go.Proofs.YtgbfbeohmogadaaGreat
open Go.RowKit
set_option linter.unusedVariables false
set_option linter.unusedSectionVars false

def Nm.cut (r : Nm) (n : Nat) : Nm := fun k => if k < n then r k else none
theorem cut_le {r s : Nm} (h : r.le s) {n m : Nat} (hn : n ≤ m) : (r.cut n).le (s.cut m) := fun k x e => by
  unfold Nm.cut at *
  split at e
  · rw [if_pos (by omega)]; exact h k x e
  · cases e
theorem cut_le_self (r : Nm) (n : Nat) : (r.cut n).le r := fun k x e => by
  unfold Nm.cut at e
  split at e
  · exact e
  · cases e
theorem RelH.mono {r s : Nm} {H : Hp} {w : World} (h : RelH r H w) (k : r.le s) : RelH s H w := by
  refine ⟨fun j B hj => ?_, fun i j B D b x y hi hj si sj => ?_⟩
  · obtain ⟨b, sz, h1, h2⟩ := h.at_ j B hj
    exact ⟨b, sz, k _ _ h1, h2.mono k⟩
  · obtain ⟨b1, s1, h1, _⟩ := h.at_ i B hi
    obtain ⟨b2, s2, h2, _⟩ := h.at_ j D hj
    have e1 := k _ _ h1
    have e2 := k _ _ h2
    rw [si] at e1
    rw [sj] at e2
    injection e1 with e1
    injection e2 with e2
    exact h.inj i j B D b x y hi hj (by rw [h1, e1]) (by rw [h2, e2])
def naOf (E : Env) (rs : Tr Rec) : Option Nat → Nat
  | none => E.s0.nx
  | some e => match rs.get e with
    | some R => R.na
    | none => 0
def Li (listed : Array Bool) (i : Nat) : Prop := listed.getD i false = true
/-- which allocs are not yet part of the memory behind effect p -/
def pendB (E : Env) (p : Option Nat) (q : Nat) : Prop := E.mergedB p q = false
structure Inv (E : Env) (rs : Tr Rec) (efs : List Nat) (r0 : Nm) (w0 : World) (listed : Array Bool) (a : Act) (w : World) (r : Nm) (eD later : List Nat) : Prop where
  size : listed.size = E.ops.size
  clo : ∀ i o, Li listed i → E.ops[i]? = some o → ∀ e ∈ o.after.toList, Region.binds .any e = true → Li listed e.on
  efs_eq : efs = later ++ eD
  eD_in : ∀ e ∈ eD, Li listed e
  later_out : ∀ e ∈ later, ¬ Li listed e
  fr0 : ∀ t v, E.s0.tm.get t = some v → (∀ j, E.wr.get t = some j → ¬ Li listed j) → ∃ u, a.tmps[t]? = some u ∧ VR (r.cut E.s0.nx) v u
  frD : ∀ (i : Nat) (o : Oper) (R : Rec) (v : V) (t : Nat), Li listed i → E.ops[i]? = some o → rs.get i = some R → R.v = some v → o.dst = some t → ∃ u, a.tmps[t]? = some u ∧ VR (r.cut R.na) v u
  asz : a.tmps.size = E.N
  adf : a.defers = []
  hp : RelH (r.cut (naOf E rs (lastE eD))) (E.after rs (lastE eD)) w
  pend : ∀ q R B, Li listed q → rs.get q = some R → R.k = .alloc B → pendB E (lastE eD) q → ∃ b sz, r R.nb = some (b, sz) ∧ BR (r.cut R.na) w B b sz ∧ w0.heap.size ≤ b ∧ ∀ k D s, (E.after rs (lastE eD)).get k = some D → r k ≠ some (b, s)
  pinj : ∀ q R B q' R' B' b s s', Li listed q → rs.get q = some R → R.k = .alloc B → pendB E (lastE eD) q → Li listed q' → rs.get q' = some R' → R'.k = .alloc B' → pendB E (lastE eD) q' → r R.nb = some (b, s) → r R'.nb = some (b, s') → q = q'
  born : ∀ k x, r k = some x → k < E.s0.nx ∨ ∃ i R, Li listed i ∧ rs.get i = some R ∧ R.nb ≤ k ∧ k < R.na
  le0 : r0.le r
  low0 : ∀ k, k < E.s0.nx → r k = r0 k
  os : w.os = w0.os
  tape : w.tape = w0.tape
  output : w.output = w0.output
  wsz : w0.heap.size ≤ w.heap.size
  blk : ∀ b, b < w0.heap.size → (∀ k B s, E.s0.hp.get k = some B → r0 k ≠ some (b, s)) → w.heap[b]? = w0.heap[b]?
  own : ∀ k B b s, (E.after rs (lastE eD)).get k = some B → r k = some (b, s) → w0.heap.size ≤ b ∨ ∃ j D t, E.s0.hp.get j = some D ∧ r0 j = some (b, t)
theorem Li_set {listed : Array Bool} {i : Nat} (hi : i < listed.size) (j : Nat) : Li (listed.setIfInBounds i true) j ↔ j = i ∨ Li listed j := by
  unfold Li
  by_cases e : j = i
  · subst e
    simp [hi]
  · rw [getD_set_ne false (Ne.symm e)]
    simp [e]
section
variable {E : Env} (h : EnvOk E) {rs : Tr Rec} {efs : List Nat} {nxE : Nat} (F : Fx E E.ops.size rs efs nxE) {r0 : Nm} {w0 : World} {listed : Array Bool} {a : Act} {w : World} {r : Nm} {eD later : List Nat}
  (I : Inv E rs efs r0 w0 listed a w r eD later) {i : Nat} {o : Oper} {R : Rec} (ho : E.ops[i]? = some o) (hR : rs.get i = some R) (hn : ¬ Li listed i) (hed : ∀ e ∈ o.after.toList, Region.binds .any e = true → Li listed e.on)
include h F I ho hR hn hed
theorem slot_ok {t : Nat} {v : V} (e : E.slot rs i t = some v) : ∃ u, a.tmps[t]? = some u ∧ VR (r.cut R.nb) v u := by
  have hi := (Array.getElem?_eq_some_iff.1 ho).1
  obtain ⟨R', q1, _, q3, q4, q5⟩ := F.all i o hi ho
  rw [hR] at q1
  injection q1 with q1
  subst q1
  unfold Env.slot at e
  split at e
  · rename_i hw
    obtain ⟨u, h1, h2⟩ := I.fr0 t v e (fun j hj => by rw [hw] at hj; cases hj)
    exact ⟨u, h1, h2.mono (cut_le (Nm.le_refl r) q3)⟩
  · rename_i j hj
    split at e
    · rename_i ha
      split at e
      · rename_i S hS
        have hlj := closed_anc h (D := Li listed) I.clo i o ho hed j ha
        have hlt := isAnc_lt h i j hi ha
        obtain ⟨o', ho', hd⟩ := h.wr2 t j hj
        obtain ⟨u, h1, h2⟩ := I.frD j o' S v t hlj ho' hS e hd
        exact ⟨u, h1, h2.mono (cut_le (Nm.le_refl r) (F.ord j i S R hlt hi hS hR))⟩
      · cases e
    · split at e
      · rename_i ha
        have hnj : ¬ Li listed j := fun hlj => by
          obtain ⟨o', ho', _⟩ := h.wr2 t j hj
          exact hn (closed_anc h (D := Li listed) I.clo j o' ho' (I.clo j o' hlj ho') i ha)
        obtain ⟨u, h1, h2⟩ := I.fr0 t v e (fun j' hj' => by rw [hj] at hj'; injection hj' with hj'; subst hj'; exact hnj)
        exact ⟨u, h1, h2.mono (cut_le (Nm.le_refl r) q3)⟩
      · cases e
theorem ev_ok {x : Operand} {v : V} (e : E.ev rs i x = some v) : VR (r.cut R.nb) v (a.eval x) := by
  cases x with
  | tmp t =>
    obtain ⟨u, h1, h2⟩ := slot_ok h F I ho hR hn hed e
    show VR _ v (a.tmps.getD t undef)
    rw [Array.getD_eq_getD_getElem?, h1]
    exact h2
  | const u => exact vOf_ok e
  | func f =>
    injection e with e
    subst e
    exact .w (.c (.f f .nil .nil))
  | global g => cases e
theorem want_ok {b : Bool} (e : E.want rs i o = some b) : Region.wanted o (yielded E.ops a.tmps) = b := by
  unfold Env.want at e
  unfold Region.wanted
  split at e
  · rename_i hg; rw [hg]; injection e
  · rename_i j want hg
    rw [hg]
    simp only
    split at e
    · rename_i q hq
      split at e
      · rename_i t ht
        split at e
        · rename_i c hc
          injection e with e
          subst e
          obtain ⟨u, h1, h2⟩ := slot_ok h F I ho hR hn hed hc
          cases h2 with | w h2 => cases h2 with | c h2 => cases h2 with | b =>
          have : yielded E.ops a.tmps j = some c := by
            unfold yielded
            rw [hq]
            simp [ht, h1]
          rw [this]
          cases c <;> cases want <;> rfl
        · rename_i hc
          injection e with e
          subst e
          obtain ⟨u, h1, h2⟩ := slot_ok h F I ho hR hn hed hc
          cases h2 with | t h2 => cases h2 with | nil =>
          have : yielded E.ops a.tmps j = none := by
            unfold yielded
            rw [hq]
            simp [ht, h1]
          rw [this]
          cases want <;> rfl
        · cases e
      · cases e
    · cases e
theorem nb_fresh (hlt : R.nb < R.na) : ∀ k, R.nb ≤ k → k < R.na → r k = none := by
  have hi := (Array.getElem?_eq_some_iff.1 ho).1
  obtain ⟨R', q1, _, q3, q4, q5⟩ := F.all i o hi ho
  rw [hR] at q1
  injection q1 with q1
  subst q1
  intro k hk1 hk2
  cases hr : r k with
  | none => rfl
  | some x =>
    rcases I.born k x hr with hb | ⟨j, S, hlj, hS, hb1, hb2⟩
    · omega
    · have hj : j < E.ops.size := by
        have := I.size
        unfold Li at hlj
        rcases Nat.lt_or_ge j listed.size with h' | h'
        · omega
        · simp [Array.getElem?_eq_none h'] at hlj
      rcases Nat.lt_trichotomy j i with e | e | e
      · have := F.ord j i S R e hi hS hR; omega
      · subst e; exact absurd hlj hn
      · have := F.ord i j R S e hj hR hS; omega
/-- one more operation has run: the frame and what it leaves alone -/
theorem put_frame {s : Nm} (hs : r.le s) (hput : ∀ v t, R.v = some v → o.dst = some t → ∀ u, VR (s.cut R.na) v u → True) (u : Value) (hu : ∀ v, R.v = some v → VR (s.cut R.na) v u) :
    (∀ t v, E.s0.tm.get t = some v → (∀ j, E.wr.get t = some j → ¬ Li (listed.setIfInBounds i true) j) → ∃ x, (a.put o.dst u).tmps[t]? = some x ∧ VR (s.cut E.s0.nx) v x) ∧
    (∀ (j : Nat) (o' : Oper) (S : Rec) (v : V) (t : Nat), Li (listed.setIfInBounds i true) j → E.ops[j]? = some o' → rs.get j = some S → S.v = some v → o'.dst = some t → ∃ x, (a.put o.dst u).tmps[t]? = some x ∧ VR (s.cut S.na) v x) ∧
    (a.put o.dst u).tmps.size = E.N ∧ (a.put o.dst u).defers = [] := by
  have hi := (Array.getElem?_eq_some_iff.1 ho).1
  have hil : i < listed.size := by rw [I.size]; exact hi
  have other : ∀ t, o.dst ≠ some t → (a.put o.dst u).tmps[t]? = a.tmps[t]? := fun t ht => by
    cases hd : o.dst with
    | none => rfl
    | some d =>
      rw [hd] at ht
      show (a.tmps.setIfInBounds d u)[t]? = _
      rw [Array.getElem?_setIfInBounds_ne (fun e => ht (by rw [e]))]
  refine ⟨fun t v hv hj => ?_, fun j o' S v t hl ho' hS hv ht => ?_, ?_, ?_⟩
  · have hnt : o.dst ≠ some t := fun hd => hj i (h.wr1 i o t ho hd) ((Li_set hil i).2 (.inl rfl))
    obtain ⟨x, h1, h2⟩ := I.fr0 t v hv (fun j hwj hlj => hj j hwj ((Li_set hil j).2 (.inr hlj)))
    exact ⟨x, by rw [other t hnt]; exact h1, h2.mono (cut_le hs (Nat.le_refl _))⟩
  · by_cases e : j = i
    · subst e
      rw [ho] at ho'
      injection ho' with ho'
      subst ho'
      rw [hR] at hS
      injection hS with hS
      subst hS
      refine ⟨u, ?_, hu v hv⟩
      rw [ht]
      show (a.tmps.setIfInBounds t u)[t]? = _
      have := h.dst j o t ho ht
      simp [I.asz, this]
    · have hlj : Li listed j := ((Li_set hil j).1 hl).resolve_left e
      obtain ⟨x, h1, h2⟩ := I.frD j o' S v t hlj ho' hS hv ht
      have hnt : o.dst ≠ some t := fun hd => by
        have e1 := h.wr1 i o t ho hd
        have e2 := h.wr1 j o' t ho' ht
        rw [e1] at e2
        injection e2 with e2
        exact e e2.symm
      exact ⟨x, by rw [other t hnt]; exact h1, h2.mono (cut_le hs (Nat.le_refl _))⟩
  · cases hd : o.dst with
    | none => exact I.asz
    | some d => show (a.tmps.setIfInBounds d u).size = _; simp [I.asz]
  · cases hd : o.dst with
    | none => exact I.adf
    | some d => exact I.adf
theorem clo_set : ∀ j o', Li (listed.setIfInBounds i true) j → E.ops[j]? = some o' → ∀ e ∈ o'.after.toList, Region.binds .any e = true → Li (listed.setIfInBounds i true) e.on := by
  have hi := (Array.getElem?_eq_some_iff.1 ho).1
  have hil : i < listed.size := by rw [I.size]; exact hi
  intro j o' hl ho' e he hb
  rw [Li_set hil]
  right
  rcases (Li_set hil j).1 hl with rfl | hl
  · rw [ho] at ho'
    injection ho' with ho'
    subst ho'
    exact hed e he hb
  · exact I.clo j o' hl ho' e he hb
/-- an operation that touches no memory -/
theorem Inv.quiet (hk : ∀ B, R.k ≠ .alloc B) (hk2 : ∀ ha, R.k ≠ .eff ha) (u : Value) (hu : ∀ v, R.v = some v → VR (r.cut R.na) v u) : Inv E rs efs r0 w0 (listed.setIfInBounds i true) (a.put o.dst u) w r eD later := by
  have hi := (Array.getElem?_eq_some_iff.1 ho).1
  have hil : i < listed.size := by rw [I.size]; exact hi
  obtain ⟨f1, f2, f3, f4⟩ := put_frame h F I ho hR hn hed (Nm.le_refl r) (fun _ _ _ _ _ _ => trivial) u hu
  have back : ∀ q S B, Li (listed.setIfInBounds i true) q → rs.get q = some S → S.k = .alloc B → Li listed q := fun q S B hl hS hB => by
    rcases (Li_set hil q).1 hl with rfl | hl
    · rw [hR] at hS; injection hS with hS; subst hS; exact absurd hB (hk B)
    · exact hl
  refine ⟨by simpa using I.size, clo_set h F I ho hR hn hed, I.efs_eq, fun e he => (Li_set hil e).2 (.inr (I.eD_in e he)), fun e he hl => ?_, f1, f2, f3, f4, I.hp, fun q S B hl hS hB hp => I.pend q S B (back q S B hl hS hB) hS hB hp,
    fun q S B q' S' B' b s s' hl hS hB hp hl' hS' hB' hp' => I.pinj q S B q' S' B' b s s' (back q S B hl hS hB) hS hB hp (back q' S' B' hl' hS' hB') hS' hB' hp', fun k x hk => ?_, I.le0, I.low0, I.os, I.tape, I.output, I.wsz, I.blk, I.own⟩
  · rcases (Li_set hil e).1 hl with rfl | hl
    · obtain ⟨_, S, ha, hS, hSk⟩ := F.eff e (by rw [I.efs_eq]; exact List.mem_append_left _ he)
      rw [hR] at hS
      injection hS with hS
      subst hS
      exact hk2 ha hSk
    · exact I.later_out e he hl
  · rcases I.born k x hk with hb | ⟨j, S, hl, hS, hb⟩
    · exact .inl hb
    · exact .inr ⟨j, S, (Li_set hil j).2 (.inr hl), hS, hb⟩
end
end Go.Proofs.YtgbfbeohmogadaaGreat
