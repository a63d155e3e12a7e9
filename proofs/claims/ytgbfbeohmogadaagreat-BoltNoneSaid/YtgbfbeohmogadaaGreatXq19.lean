/- Running closed code: what the run of a drawn region tells of each operation (second part). -/
import Derived.Test.YtgbfbeohmogadaaGreatXq18
namespace Go.Proofs.YtgbfbeohmogadaaGreat
open Go.RowKit
set_option linter.unusedVariables false

def OpF (E : Env) (rs : Tr Rec) (efs : List Nat) (i : Nat) (o : Oper) (R : Rec) : Prop := match R.k with
  | .skip => E.want rs i o = some false ∧ R.v = some (.t []) ∧ R.na = R.nb
  | .pure => E.want rs i o = some true ∧ ∃ v, R.v = some v ∧ opPure E.P (E.ev rs i) o.op = some v ∧ R.na = R.nb
  | .load => E.want rs i o = some true ∧ (∃ t x, o.op = .load t x) ∧ R.na = R.nb
  | .alloc B => E.want rs i o = some true ∧ ∃ m, opAlloc E.P (E.ev rs i) o.op = some (B, m) ∧ R.v = some (.w (.c (madeC R.nb m))) ∧ R.na = R.nb + 1
  | .eff ha => E.want rs i o = some true ∧ ∃ rest, (i :: rest) <:+ efs ∧ (∀ e, lastE rest = some e → E.isAnc e i = true) ∧ opMem E.P E.ext E.call (E.ev rs i) (E.merge rs (lastE rest) i i) R.nb o.op = some (R.v, ha, R.na)
theorem OpF.mono {E : Env} (h : EnvOk E) {rs rt : Tr Rec} {efs eft : List Nat} {i : Nat} (hi : i < E.ops.size) {o : Oper} {R : Rec} (hs : Same i rs rt) (he : efs <:+ eft) (k : OpF E rs efs i o R) : OpF E rt eft i o R := by
  have e1 := ev_same h hi hs
  have e2 := want_same h hi hs o
  unfold OpF at *
  split
  all_goals rename_i hk; rw [hk] at k
  · exact ⟨by rw [e2]; exact k.1, k.2⟩
  · exact ⟨by rw [e2]; exact k.1, by rw [e1]; exact k.2⟩
  · exact ⟨by rw [e2]; exact k.1, k.2⟩
  · exact ⟨by rw [e2]; exact k.1, by rw [e1]; exact k.2⟩
  · obtain ⟨k1, rest, k2, k3, k4⟩ := k
    refine ⟨by rw [e2]; exact k1, rest, k2.trans he, k3, ?_⟩
    rw [e1, merge_same hs (fun e hp => isAnc_lt h i e hi (k3 e hp)) i i (Nat.le_refl _)]
    exact k4
/-- all that is known behind the first i operations -/
structure Fx (E : Env) (i : Nat) (rs : Tr Rec) (efs : List Nat) (nx : Nat) : Prop where
  all : ∀ j o, j < i → E.ops[j]? = some o → ∃ R, rs.get j = some R ∧ OpF E rs efs j o R ∧ E.s0.nx ≤ R.nb ∧ R.nb ≤ R.na ∧ R.na ≤ nx
  ord : ∀ j k R S, j < k → k < i → rs.get j = some R → rs.get k = some S → R.na ≤ S.nb
  eff : ∀ e ∈ efs, e < i ∧ ∃ R ha, rs.get e = some R ∧ R.k = .eff ha
  dec : efs.Pairwise (· > ·)
  lo : E.s0.nx ≤ nx
theorem stepD_ok {E : Env} (h : EnvOk E) {i : Nat} {rs : Tr Rec} {efs efs' : List Nat} {nx : Nat} {o : Oper} (ho : E.ops[i]? = some o) (k : Fx E i rs efs nx) {R : Rec} (e : E.stepD i o rs efs nx = some (R, efs')) :
    OpF E rs efs' i o R ∧ R.nb = nx ∧ R.nb ≤ R.na ∧ ((efs' = efs ∧ ∀ ha, R.k ≠ .eff ha) ∨ (efs' = i :: efs ∧ ∃ ha, R.k = .eff ha)) := by
  unfold Env.stepD at e
  split at e
  · cases e
  · rename_i hw
    injection e with e
    injection e with e1 e2
    subst e1 e2
    exact ⟨⟨hw, rfl, rfl⟩, rfl, Nat.le_refl _, .inl ⟨rfl, fun ha => (by intro e; cases e)⟩⟩
  · rename_i hw
    split at e
    · rename_i v hv
      injection e with e
      injection e with e1 e2
      subst e1 e2
      exact ⟨⟨hw, v, rfl, hv, rfl⟩, rfl, Nat.le_refl _, .inl ⟨rfl, fun ha => (by intro e; cases e)⟩⟩
    · split at e
      · rename_i B m hm
        injection e with e
        injection e with e1 e2
        subst e1 e2
        exact ⟨⟨hw, m, hm, rfl, rfl⟩, rfl, Nat.le_succ _, .inl ⟨rfl, fun ha => (by intro e; cases e)⟩⟩
      · split at e
        · rename_i t x hop
          split at e
          · split at e
            · split at e
              · injection e with e
                injection e with e1 e2
                subst e1 e2
                exact ⟨⟨hw, ⟨t, x, hop⟩, rfl⟩, rfl, Nat.le_refl _, .inl ⟨rfl, fun ha => (by intro e; cases e)⟩⟩
              · cases e
            · cases e
          · cases e
        · split at e
          · rename_i hch
            split at e
            · rename_i v ha na hm
              split at e
              · rename_i hle
                injection e with e
                injection e with e1 e2
                subst e1 e2
                refine ⟨⟨hw, efs, List.suffix_refl _, fun e he => ?_, hm⟩, rfl, hle, .inr ⟨rfl, ha, rfl⟩⟩
                rw [he] at hch
                exact hch
              · cases e
            · cases e
          · cases e
theorem runD_ok {E : Env} (h : EnvOk E) : ∀ (l : List Oper) (i : Nat) (rs : Tr Rec) (efs : List Nat) (nx : Nat), i ≤ E.ops.size → E.ops.toList.drop i = l → Fx E i rs efs nx → ∀ rs' efs' nx', E.runD l i rs efs nx = some (rs', efs', nx') → Fx E E.ops.size rs' efs' nx'
  | [], i, rs, efs, nx, hle, hl, k, rs', efs', nx', e => by
    injection e with e
    injection e with e1 e2
    injection e2 with e2 e3
    subst e1 e2 e3
    have hsz : E.ops.size ≤ i := by
      have := congrArg List.length hl
      simp at this
      omega
    refine ⟨fun j o hj ho => k.all j o (by omega) ho, fun j m R S h1 h2 h3 h4 => k.ord j m R S h1 (by omega) h3 h4, fun e he => ?_, k.dec, k.lo⟩
    obtain ⟨h3, R, ha, h1, h2⟩ := k.eff e he
    exact ⟨by omega, R, ha, h1, h2⟩
  | o :: l, i, rs, efs, nx, hle, hl, k, rs', efs', nx', e => by
    have ho : E.ops[i]? = some o := by
      have h1 : (E.ops.toList.drop i)[0]? = some o := by rw [hl]; rfl
      rw [List.getElem?_drop, Nat.add_zero] at h1
      simpa using h1
    have hi := (Array.getElem?_eq_some_iff.1 ho).1
    have hl' : E.ops.toList.drop (i + 1) = l := by
      rw [← List.drop_drop, hl]; rfl
    unfold Env.runD at e
    split at e
    · rename_i R eft hst
      obtain ⟨f1, f2, f3, f4⟩ := stepD_ok h ho k hst
      have hsuf : efs <:+ eft := by
        rcases f4 with ⟨rfl, _⟩ | ⟨rfl, _⟩
        · exact List.suffix_refl _
        · exact List.suffix_cons _ _
      have hsame : ∀ j, j ≤ i → Same j rs (rs.set i R) := fun j hj q hq => by rw [Tr.get_set, if_neg (by omega)]
      refine runD_ok h l (i + 1) (rs.set i R) eft R.na hi hl' ⟨fun j o' hj ho' => ?_, fun j m S T h1 h2 h3 h4 => ?_, fun q hq => ?_, ?_, ?_⟩ rs' efs' nx' e
      · by_cases hji : j = i
        · subst hji
          rw [ho] at ho'
          injection ho' with ho'
          subst ho'
          refine ⟨R, by rw [Tr.get_set, if_pos rfl], f1.mono h hi (hsame j (Nat.le_refl _)) (List.suffix_refl _), by rw [f2]; exact k.lo, f3, Nat.le_refl _⟩
        · obtain ⟨S, g1, g2, g3, g4, g5⟩ := k.all j o' (by omega) ho'
          exact ⟨S, by rw [Tr.get_set, if_neg hji]; exact g1, g2.mono h (by omega) (hsame j (by omega)) hsuf, g3, g4, by omega⟩
      · rw [Tr.get_set, if_neg (by omega)] at h3
        by_cases hmi : m = i
        · subst hmi
          rw [Tr.get_set, if_pos rfl] at h4
          injection h4 with h4
          subst h4
          have hoj : E.ops[j]? = some (E.ops[j]'(by omega)) := Array.getElem?_eq_getElem _
          obtain ⟨S', g1, g2, g3, g4, g5⟩ := k.all j _ h1 hoj
          rw [h3] at g1
          injection g1 with g1
          subst g1
          omega
        · rw [Tr.get_set, if_neg hmi] at h4
          exact k.ord j m S T h1 (by omega) h3 h4
      · rcases f4 with ⟨rfl, _⟩ | ⟨rfl, ha, hk⟩
        · obtain ⟨a1, S, ha, a2, a3⟩ := k.eff q hq
          exact ⟨by omega, S, ha, by rw [Tr.get_set, if_neg (by omega)]; exact a2, a3⟩
        · rcases List.mem_cons.1 hq with rfl | hq
          · exact ⟨by omega, R, ha, by rw [Tr.get_set, if_pos rfl], hk⟩
          · obtain ⟨a1, S, ha, a2, a3⟩ := k.eff q hq
            exact ⟨by omega, S, ha, by rw [Tr.get_set, if_neg (by omega)]; exact a2, a3⟩
      · rcases f4 with ⟨rfl, _⟩ | ⟨rfl, ha, hk⟩
        · exact k.dec
        · exact List.pairwise_cons.2 ⟨fun q hq => (k.eff q hq).1, k.dec⟩
      · have := k.lo; omega
    · cases e
end Go.Proofs.YtgbfbeohmogadaaGreat
