/- Running closed code: binary and unary operators, conversions, addresses, parts; all operations that touch no memory. -/
import Derived.Test.YtgbfbeohmogadaaGreatXq3
namespace Go.Proofs.YtgbfbeohmogadaaGreat
open Go.RowKit

section
variable {P : Program} (w : World) (d : Nat) {t e : TypeId}
theorem eq_ptr_nil (ht : P.underlying t = some (.pointer e)) (a : Option Addr) : (Op.equalIn (d + 1) t (.pointer a) (.pointer none)).run P w = .ok a.isNone w := by
  cases a <;> simp [Op.equalIn, run_underlying ht]
theorem eq_nil_ptr (ht : P.underlying t = some (.pointer e)) (a : Addr) : (Op.equalIn (d + 1) t (.pointer none) (.pointer (some a))).run P w = .ok false w := by
  simp [Op.equalIn, run_underlying ht]
theorem eq_sl_nil (ht : P.underlying t = some (.slice e)) (a : Option Addr) (n c : Nat) : (Op.equalIn (d + 1) t (.slice a n c) (.slice none 0 0)).run P w = .ok a.isNone w := by
  cases a <;> simp [Op.equalIn, run_underlying ht]
theorem eq_fn_nil {x y : Array TypeId} {z : Bool} (ht : P.underlying t = some (.func x y z)) : (Op.equalIn (d + 1) t .nilFunc .nilFunc).run P w = .ok true w := by
  simp [Op.equalIn, run_underlying ht]
theorem eq_fn_some {x y : Array TypeId} {z : Bool} (ht : P.underlying t = some (.func x y z)) (f : Fn) (a c : Array Value) : (Op.equalIn (d + 1) t (.func f a c) .nilFunc).run P w = .ok false w := by
  simp [Op.equalIn, run_underlying ht]
end
theorem eqB_ok {op : BinOp} {b : Bool} {c : C} (h : eqB op b = some c) : (op = .eql ∧ c = .b b) ∨ (op = .neq ∧ c = .b (!b)) := by
  unfold eqB at h
  split at h
  · injection h with h; exact .inl ⟨rfl, h.symm⟩
  · injection h with h; exact .inr ⟨rfl, h.symm⟩
  · cases h
/-- no aggregates, no interface values: the guard passes -/
def plainV : Value → Bool
  | .agg _ => false
  | .nilIface => false
  | _ => true
theorem guard_plain {P : Program} {op : BinOp} {t : TypeId} {x y : Operand} {u v : Value} (h : plainV u = true) (w : World) : (eqGuard op t x y u v).run P w = .ok () w := by
  cases u <;> simp [plainV] at h <;> cases op <;> simp [eqGuard]
theorem binOp_equal {P : Program} {op : BinOp} {t : TypeId} {u v : Value} {b : Bool} {c : C} {r : Nm} (h : eqB op b = some c) (hq : ∀ w, (Op.equal t u v).run P w = .ok b w)
    (hb1 : binOp .eql t u v = (do pure (.bool (← Op.equal t u v)))) (hb2 : binOp .neq t u v = (do pure (.bool (!(← Op.equal t u v))))) : ∃ z, CR r c z ∧ ∀ w, (binOp op t u v).run P w = .ok z w := by
  rcases eqB_ok h with ⟨rfl, rfl⟩ | ⟨rfl, rfl⟩
  · exact ⟨_, .b _, fun w => by rw [hb1]; simp [hq w]⟩
  · exact ⟨_, .b _, fun w => by rw [hb2]; simp [hq w]⟩
set_option maxHeartbeats 1000000 in
theorem opBin_ok {P : Program} {r : Nm} {op : BinOp} {t : TypeId} {x y : V} {c : C} {u v : Value} (h : opBin P op t x y = some c) (hu : VR r x u) (hv : VR r y v) :
    ∃ z, CR r c z ∧ ∀ (ox oy : Operand) (w : World), ((do eqGuard op t ox oy u v; binOp op t u v) : Sem Value).run P w = .ok z w := by
  have fin : plainV u = true → (∃ z, CR r c z ∧ ∀ w, (binOp op t u v).run P w = .ok z w) → ∃ z, CR r c z ∧ ∀ (ox oy : Operand) (w : World), ((do eqGuard op t ox oy u v; binOp op t u v) : Sem Value).run P w = .ok z w := by
    rintro hp ⟨z, h1, h2⟩
    exact ⟨z, h1, fun ox oy w => by rw [Sem.run_bind, guard_plain hp, Result.andThen_ok]; exact h2 w⟩
  unfold opBin at h
  split at h
  · cases hu with | w hu => cases hu with | c hu => cases hu; cases hv with | w hv => cases hv with | c hv => cases hv; exact fin rfl (by
      split at h
      · rename_i hs; exact shiftI_ok hs h
      · split at h
        · rename_i hk; subst hk; exact intBin_ok h
        · cases h)
  · cases hu with | w hu => cases hu with | c hu => cases hu; cases hv with | w hv => cases hv with | c hv => cases hv; exact fin rfl (by
      unfold strBin at h
      split at h
      · split at h
        · rename_i hl
          injection h with h
          subst h
          refine ⟨_, .s _, fun w => ?_⟩
          have hm : IntKind.i64.max = 9223372036854775807 := by decide
          simp only [binOp, Op.stringOp, hm]
          rw [if_neg (by omega)]; rfl
        · cases h
      · injection h with h; subst h; exact ⟨_, .b _, fun w => by simp [binOp, Op.stringOp]⟩
      · injection h with h; subst h; exact ⟨_, .b _, fun w => by simp [binOp, Op.stringOp]⟩
      · cases h)
  · cases hu with | w hu => cases hu with | c hu => cases hu; cases hv with | w hv => cases hv with | c hv => cases hv; exact fin rfl (by
      split at h
      · rename_i ht; exact binOp_equal h (fun w => run_equal_bool w t _ _ ht) rfl rfl
      · cases h)
  · cases hv with | w hv => cases hv with | c hv => cases hv; cases hu with | w hu => cases hu with | c hu => exact fin (by cases hu <;> rfl) (by
      split at h
      · rename_i e ht
        cases hu with
        | p0 => exact binOp_equal h (fun w => eq_ptr_nil w 9999 ht none) rfl rfl
        | p k => exact binOp_equal h (fun w => eq_ptr_nil w 9999 ht _) rfl rfl
      · cases h)
  · cases hu with | w hu => cases hu with | c hu => cases hu; cases hv with | w hv => cases hv with | c hv => exact fin rfl (by
      split at h
      · rename_i e ht
        cases hv with
        | p k => exact binOp_equal h (fun w => eq_nil_ptr w 9999 ht _) rfl rfl
      · cases h)
  · cases hv with | w hv => cases hv with | c hv => cases hv; cases hu with | w hu => cases hu with | c hu => exact fin (by cases hu <;> rfl) (by
      split at h
      · rename_i e ht
        cases hu with
        | l0 n c => exact binOp_equal h (fun w => eq_sl_nil w 9999 ht _ _ _) rfl rfl
        | l n c k => exact binOp_equal h (fun w => eq_sl_nil w 9999 ht _ _ _) rfl rfl
        | u n c es k => exact binOp_equal h (fun w => eq_sl_nil w 9999 ht _ _ _) rfl rfl
      · cases h)
  · cases hu with | w hu => cases hu with | c hu => cases hu; cases hv with | w hv => cases hv with | c hv => cases hv; exact fin rfl (by
      split at h
      · rename_i ht; exact binOp_equal h (fun w => eq_fn_nil w 9999 ht) rfl rfl
      · cases h)
  · cases hu with | w hu => cases hu with | c hu => cases hu; cases hv with | w hv => cases hv with | c hv => cases hv; exact fin rfl (by
      split at h
      · rename_i ht; exact binOp_equal h (fun w => eq_fn_some w 9999 ht _ _ _) rfl rfl
      · cases h)
  · split at h
    · cases h
    · rename_i hg
      split at h
      · rename_i b hb
        cases hu with | w hu => cases hu with | a hu => cases hv with | w hv => cases hv with | a hv =>
          have hr := fun w => eqW_ok (P := P) (r := r) 12 10000 (by decide) t _ _ b _ _ hb (.a hu) (.a hv) w
          have hgd := fun (ox oy : Operand) (us vs : Array Value) (w : World) => run_eqGuard_agg (P := P) w op t ox oy us vs (by simpa using hg)
          rcases eqB_ok h with ⟨rfl, rfl⟩ | ⟨rfl, rfl⟩
          · exact ⟨_, .b _, fun ox oy w => by rw [Sem.run_bind, hgd, Result.andThen_ok, run_eql_struct, hr w, Result.andThen_ok]⟩
          · exact ⟨_, .b _, fun ox oy w => by rw [Sem.run_bind, hgd, Result.andThen_ok, run_neq_struct, hr w, Result.andThen_ok]⟩
      · cases h
  · cases h
/-! ### Unary operators, conversions -/
def opUn (op : UnOp) (x : V) : Option C := match op, x with
  | .neg, .w (.c (.i k n)) => some (.i k (k.wrap (0 - n)))
  | .not, .w (.c (.b b)) => some (.b (!b))
  | _, _ => none
theorem opUn_ok {P : Program} {r : Nm} {op : UnOp} {x : V} {c : C} {u : Value} (h : opUn op x = some c) (hu : VR r x u) : ∃ z, CR r c z ∧ ∀ w, (Op.unary op u).run P w = .ok z w := by
  unfold opUn at h
  split at h
  · injection h with h; subst h
    cases hu with | w hu => cases hu with | c hu => cases hu; exact ⟨_, .i _ _, fun w => by simp [Op.unary, Op.intArith]⟩
  · injection h with h; subst h
    cases hu with | w hu => cases hu with | c hu => cases hu; exact ⟨_, .b _, fun w => by simp [Op.unary]⟩
  · cases h
def opConv (P : Program) (s d : TypeId) (x : V) : Option C := match P.underlying s, P.underlying d, x with
  | some _, some (.int k), .w (.c (.i _ n)) => some (.i k (k.wrap n))
  | some _, some .string, .w (.c (.s a)) => some (.s a)
  | _, _, _ => none
theorem opConv_ok {P : Program} {r : Nm} {s d : TypeId} {x : V} {c : C} {u : Value} (h : opConv P s d x = some c) (hu : VR r x u) : ∃ z, CR r c z ∧ ∀ w, (convert s d u).run P w = .ok z w := by
  unfold opConv at h
  split at h
  · rename_i ds k n h1 h2
    injection h with h; subst h
    cases hu with | w hu => cases hu with | c hu => cases hu; exact ⟨_, .i _ _, fun w => by
      unfold convert
      rw [Sem.run_bind, run_underlying h1, Result.andThen_ok, Sem.run_bind, run_underlying h2, Result.andThen_ok]
      cases ds <;> simp [Conv.intToInt]⟩
  · rename_i ds a h1 h2
    injection h with h; subst h
    cases hu with | w hu => cases hu with | c hu => cases hu; exact ⟨_, .s _, fun w => by
      unfold convert
      rw [Sem.run_bind, run_underlying h1, Result.andThen_ok, Sem.run_bind, run_underlying h2, Result.andThen_ok]
      cases ds <;> simp⟩
  · cases h
end Go.Proofs.YtgbfbeohmogadaaGreat
