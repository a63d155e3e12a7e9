/- Running closed code: operators on numbers, truth values, strings, and equality. -/
import Derived.Test.YtgbfbeohmogadaaGreatXq2
import Derived.Laws.StructEq
namespace Go.Proofs.YtgbfbeohmogadaaGreat
open Go.RowKit

/-! ### Equality -/
def eqFs (rc : TypeId → Wv → Wv → Option Bool) (P : Program) : List Field → List C → List C → Option Bool
  | [], _, _ => some true
  | f :: fs, xs, ys => if f.name = "_" then none else
    match partC P f.type xs f.offset with
    | none => none
    | some a => match partC P f.type ys f.offset with
      | none => none
      | some b => match rc f.type a b with
        | none => none
        | some false => some false
        | some true => eqFs rc P fs xs ys
def eqW (P : Program) : Nat → TypeId → Wv → Wv → Option Bool
  | 0, _, _, _ => none
  | m + 1, t, x, y => match P.underlying t with
    | some .bool => match x, y with
      | .c (.b a), .c (.b b) => some (a == b)
      | _, _ => none
    | some (.int _) => match x, y with
      | .c (.i k a), .c (.i j b) => if k = j then some (a == b) else none
      | _, _ => none
    | some .string => match x, y with
      | .c (.s a), .c (.s b) => some (a.toList == b.toList)
      | _, _ => none
    | some (.struct fs) => match x, y with
      | .a xs, .a ys => if P.stoodInHeld t then none else eqFs (eqW P m) P fs.toList xs ys
      | _, _ => none
    | _ => none
theorem eqFs_ok {P : Program} {r : Nm} {rc : TypeId → Wv → Wv → Option Bool} {d : Nat} (hrc : ∀ t x y b u v, rc t x y = some b → WR r x u → WR r y v → ∀ w, (Op.equalIn d t u v).run P w = .ok b w)
    {xs ys : List C} {us vs : List Value} (hx : CsR r xs us) (hy : CsR r ys vs) : ∀ (fs : List Field) (b : Bool), eqFs rc P fs xs ys = some b → ∀ w, (Op.eqFields d us.toArray vs.toArray fs).run P w = .ok b w := by
  intro fs
  induction fs with
  | nil => intro b h w; injection h with h; subst h; simp [Op.eqFields]
  | cons f fs ih =>
    intro b h w
    unfold eqFs at h
    split at h
    · cases h
    · rename_i hn
      split at h
      · cases h
      · rename_i a ha
        split at h
        · cases h
        · rename_i c hc
          obtain ⟨u, hu, ru⟩ := partC_ok hx ha
          obtain ⟨v, hv, rv⟩ := partC_ok hy hc
          split at h
          · cases h
          · rename_i he
            injection h with h
            subst h
            have hr := hrc _ _ _ _ _ _ he hu hv
            simp only [Op.eqFields, ne_eq, hn, not_false_eq_true, if_true, Sem.run_bind, ru, rv, hr, Result.andThen_ok, Bool.not_false, Sem.run_pure]
          · rename_i he
            have hr := hrc _ _ _ _ _ _ he hu hv
            simp only [Op.eqFields, ne_eq, hn, not_false_eq_true, if_true, Sem.run_bind, ru, rv, hr, Result.andThen_ok, Bool.not_true, Bool.false_eq_true, if_false]
            exact ih b h w
theorem eqW_ok {P : Program} {r : Nm} : ∀ (m d : Nat), m ≤ d → ∀ t x y b u v, eqW P m t x y = some b → WR r x u → WR r y v → ∀ w, (Op.equalIn d t u v).run P w = .ok b w := by
  intro m
  induction m with
  | zero => intro d _ t x y b u v h; cases h
  | succ m ih =>
    intro d hd t x y b u v h hu hv w
    obtain ⟨d, rfl⟩ : ∃ e, d = e + 1 := ⟨d - 1, by omega⟩
    unfold eqW at h
    split at h
    · rename_i ht
      split at h
      · injection h with h
        subst h
        cases hu with
        | c hu => cases hu; cases hv with
          | c hv => cases hv; exact run_equalIn_bool' w d t _ _ ht
      · cases h
    · rename_i ht
      split at h
      · split at h
        · rename_i k a j c hk
          subst hk
          injection h with h
          subst h
          cases hu with
          | c hu => cases hu; cases hv with
            | c hv => cases hv; exact run_equalIn_int w d t _ _ _ _ ht
        · cases h
      · cases h
    · rename_i ht
      split at h
      · injection h with h
        subst h
        cases hu with
        | c hu => cases hu; cases hv with
          | c hv => cases hv; exact run_equalIn_string w d t _ _ ht
      · cases h
    · rename_i fs ht
      split at h
      · split at h
        · cases h
        · rename_i xs ys hs
          cases hu with
          | a hu => cases hv with
            | a hv =>
              have hf : P.fieldsOf t = fs := by unfold Program.fieldsOf; rw [ht]
              rw [run_equalIn_struct w d t _ _ (by rw [hf]; exact ht) (by simpa using hs), hf]
              exact eqFs_ok (fun t x y b u v => ih d (by omega) t x y b u v) hu hv fs.toList b h w
      · cases h
    · cases h
/-! ### Operators -/
def bitsI (op : BinOp) (k : IntKind) (x y : Int) : Option Int := match op with
  | .and => some (k.wrap (BitVec.ofInt k.bits x &&& BitVec.ofInt k.bits y).toNat)
  | .or => some (k.wrap (BitVec.ofInt k.bits x ||| BitVec.ofInt k.bits y).toNat)
  | .xor => some (k.wrap (BitVec.ofInt k.bits x ^^^ BitVec.ofInt k.bits y).toNat)
  | .andNot => some (k.wrap (BitVec.ofInt k.bits x &&& ~~~BitVec.ofInt k.bits y).toNat)
  | _ => none
def intBin (op : BinOp) (k : IntKind) (x y : Int) : Option C := match op with
  | .add => some (.i k (k.wrap (x + y)))
  | .sub => some (.i k (k.wrap (x - y)))
  | .mul => some (.i k (k.wrap (x * y)))
  | .quo => if y = 0 then none else some (.i k (k.wrap (x.tdiv y)))
  | .rem => if y = 0 then none else some (.i k (x.tmod y))
  | .eql => some (.b (x == y))
  | .neq => some (.b (x != y))
  | .lss => some (.b (x < y))
  | .leq => some (.b (x ≤ y))
  | .gtr => some (.b (x > y))
  | .geq => some (.b (x ≥ y))
  | .shl => none
  | .shr => none
  | op => (bitsI op k x y).map (.i k)
def shiftI (op : BinOp) (k : IntKind) (x y : Int) : Option C := if y < 0 then none else match op with
  | .shl => some (.i k (k.wrap (x * 2 ^ min y.toNat k.bits)))
  | .shr => some (.i k (x.fdiv (2 ^ min y.toNat k.bits)))
  | _ => none
def isShift : BinOp → Bool
  | .shl => true
  | .shr => true
  | _ => false
def strBin (op : BinOp) (x y : ByteArray) : Option C :=
  match op with
  | .add => if x.size + y.size ≤ 1000000 then some (.s (x ++ y)) else none
  | .eql => some (.b (x.toList == y.toList))
  | .neq => some (.b (!(x.toList == y.toList)))
  | _ => none
def eqB (op : BinOp) (b : Bool) : Option C := match op with
  | .eql => some (.b b)
  | .neq => some (.b (!b))
  | _ => none
def opBin (P : Program) (op : BinOp) (t : TypeId) (x y : V) : Option C := match x, y with
  | .w (.c (.i k a)), .w (.c (.i j b)) => if isShift op then shiftI op k a b else if k = j then intBin op k a b else none
  | .w (.c (.s a)), .w (.c (.s b)) => strBin op a b
  | .w (.c (.b a)), .w (.c (.b b)) => match P.underlying t with
    | some .bool => eqB op (a == b)
    | _ => none
  | .w (.c (.p a)), .w (.c (.p none)) => match P.underlying t with
    | some (.pointer _) => eqB op a.isNone
    | _ => none
  | .w (.c (.p none)), .w (.c (.p (some _))) => match P.underlying t with
    | some (.pointer _) => eqB op false
    | _ => none
  | .w (.c (.l a _ _)), .w (.c (.l none 0 (.k 0))) => match P.underlying t with
    | some (.slice _) => eqB op a.isNone
    | _ => none
  | .w (.c .nf), .w (.c .nf) => match P.underlying t with
    | some (.func _ _ _) => eqB op true
    | _ => none
  | .w (.c (.f _ _ _)), .w (.c .nf) => match P.underlying t with
    | some (.func _ _ _) => eqB op false
    | _ => none
  | .w (.a xs), .w (.a ys) => if P.eqGuardType P.depth t then none else match eqW P 12 t (.a xs) (.a ys) with
    | some b => eqB op b
    | none => none
  | _, _ => none
theorem bitsI_ok {P : Program} {op : BinOp} {k : IntKind} {x y z : Int} (h : bitsI op k x y = some z) (w : World) : (Op.intBits op k x y).run P w = .ok (.int k z) w := by
  unfold bitsI at h
  split at h <;> first | (injection h with h; subst h; simp [Op.intBits]) | cases h
theorem intBin_ok {P : Program} {r : Nm} {op : BinOp} {t : TypeId} {k : IntKind} {x y : Int} {c : C} (h : intBin op k x y = some c) : ∃ u, CR r c u ∧ ∀ w, (binOp op t (.int k x) (.int k y)).run P w = .ok u w := by
  unfold intBin at h
  split at h
  case h_14 =>
    cases hb : bitsI _ k x y with
    | none => rw [hb] at h; cases h
    | some z =>
      rw [hb] at h
      injection h with h
      subst h
      refine ⟨_, .i k z, fun w => ?_⟩
      have := bitsI_ok (P := P) hb w
      unfold bitsI at hb
      split at hb <;> first | (simpa [binOp] using this) | cases hb
  all_goals first
    | (injection h with h; subst h; refine ⟨_, by first | exact .i _ _ | exact .b _, fun w => ?_⟩; simp [binOp, Op.intArith, Op.intCmp, go_sem]; done)
    | (split at h
       · cases h
       · rename_i hz
         injection h with h; subst h; refine ⟨_, .i _ _, fun w => ?_⟩; simp [binOp, Op.intDiv, hz, go_sem])
    | cases h
theorem shiftI_ok {P : Program} {r : Nm} {op : BinOp} {t : TypeId} {k j : IntKind} {x y : Int} {c : C} (hs : isShift op = true) (h : shiftI op k x y = some c) : ∃ u, CR r c u ∧ ∀ w, (binOp op t (.int k x) (.int j y)).run P w = .ok u w := by
  unfold shiftI at h
  split at h
  · cases h
  · rename_i hz
    split at h
    · injection h with h; subst h; refine ⟨_, .i _ _, fun w => ?_⟩; simp [binOp, Op.shift, hz, go_sem]
    · injection h with h; subst h; refine ⟨_, .i _ _, fun w => ?_⟩; simp [binOp, Op.shift, hz, go_sem]
    · cases h
end Go.Proofs.YtgbfbeohmogadaaGreat
