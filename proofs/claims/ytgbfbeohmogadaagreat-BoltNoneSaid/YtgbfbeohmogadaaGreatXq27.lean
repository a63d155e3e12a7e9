/- Running closed code: atomic sums, swaps, compare-and-swaps. -/
import Derived.Test.YtgbfbeohmogadaaGreatXq26
namespace Go.Proofs.YtgbfbeohmogadaaGreat
open Go.RowKit
set_option linter.unusedVariables false

def vI : C → Value
  | .i k n => .int k n
  | .b x => .bool x
  | _ => undef
def intsOf : List V → Option (List C)
  | [] => some []
  | .w (.c (.i k n)) :: l => match intsOf l with
    | some cs => some (.i k n :: cs)
    | none => none
  | _ => none
theorem intsOf_ok {r : Nm} {xs : List V} {us : List Value} (h : VsR r xs us) : ∀ {cs : List C}, intsOf xs = some cs → us = cs.map vI := by
  induction h with
  | nil => intro cs e; injection e with e; subst e; rfl
  | cons hx _ ih =>
    intro cs e
    unfold intsOf at e
    split at e
    · rename_i heq; cases heq
    · rename_i k n l heq
      injection heq with h1 h2
      subst h1 h2
      split at e
      · rename_i cs' hcs
        injection e with e
        subst e
        cases hx with | w hx => cases hx with | c hx => cases hx with | i =>
        rw [ih hcs]; rfl
      · cases e
    · cases e
/-- what an atomic operation makes of a cell's number: its answer, what it stores -/
abbrev AtF := Int → List C → Option (C × Option Int)
def extG (f0 : FuncId) (k : IntKind) (g : AtF) : ExtF := fun f xs H => if f = f0 then match xs with
  | .w (.c (.p (some (n, o)))) :: rest => match intsOf rest, H.get n with
    | some cs, some B => if o < B.n then match B.cell o with
      | .i j x => if j = k then match g x cs with
        | some (c, none) => some (.w (.c c), H)
        | some (c, some y) => some (.w (.c c), H.set n (B.put o [.i k y]))
        | none => none
        else none
      | _ => none
      else none
    | _, _ => none
  | _ => none
  else none
def AtS (P : Program) (f0 : FuncId) (k : IntKind) (g : AtF) : Prop := ∀ (a : Addr) (x : Int) (cs : List C) (c : C) (ny : Option Int) (w : World), g x cs = some (c, ny) → w.cell? a = some (.int k x) → w.frozen? a = false →
  (∀ r, CR r c (vI c)) ∧ (callFunc f0 (.pointer (some a) :: cs.map vI).toArray).run P w = .ok (.value (vI c)) (match ny with | none => w | some y => w.setCell a (.int k y))
theorem extG_ok {P : Program} {f0 : FuncId} {k : IntKind} {g : AtF} (hg : AtS P f0 k g) : ExtS P (extG f0 k g) := by
  intro f xs H v H' h r w us hu hH
  unfold extG at h
  split at h
  case isFalse => cases h
  rename_i hf
  subst hf
  split at h
  case h_2 => cases h
  rename_i n o rest
  split at h
  case h_2 => cases h
  rename_i cs B hcs hB
  split at h
  case isFalse => cases h
  rename_i ho
  split at h
  case h_2 => cases h
  rename_i j x hc
  split at h
  case isFalse => cases h
  rename_i hj
  subst hj
  cases hu with | cons hx ht => cases hx with | w hx => cases hx with | c hx => cases hx with | p rk =>
  have hus := intsOf_ok ht hcs
  subst hus
  obtain ⟨b, sz, rk', hBR⟩ := hH.at_ n B hB
  rw [rk] at rk'
  injection rk' with rk'
  injection rk' with e1 e2
  subst e1 e2
  split at h
  · rename_i c hgc
    injection h with h
    injection h with h1 h2
    subst h1 h2
    obtain ⟨k1, k2⟩ := hg _ x cs c none w hgc (hBR.int ho hc) (hBR.frozen o)
    exact ⟨_, w, k2, .w (.c (k1 r)), fun nx => Mv.refl hH⟩
  · rename_i c y hgc
    injection h with h
    injection h with h1 h2
    subst h1 h2
    obtain ⟨k1, k2⟩ := hg _ x cs c (some y) w hgc (hBR.int ho hc) (hBR.frozen o)
    exact ⟨_, _, k2, .w (.c (k1 r)), fun nx => mv_cell hH hB rk ho (.i _ _)⟩
  · cases h
def gAdd (k : IntKind) : AtF := fun x cs => match cs with
  | [.i j y] => if j = k then some (.i k (k.wrap (x + y)), some (k.wrap (x + y))) else none
  | _ => none
def gSwap (k : IntKind) : AtF := fun x cs => match cs with
  | [.i j y] => if j = k then some (.i k x, some y) else none
  | _ => none
def gCas (k : IntKind) : AtF := fun x cs => match cs with
  | [.i j o, .i m y] => if j = k ∧ m = k then (if x = o then some (.b true, some y) else some (.b false, none)) else none
  | _ => none
section
variable {P : Program} {f : FuncId} {fn : Func} (hf : P.funcs[f]? = some fn) (hname : (fn.name == "runtime.NumGoroutine") = false) (hb : fn.body.isNone = true) (hn : Extern.findNext fn = none) (k : IntKind)
include hf hname hb hn
theorem gAdd_ok (he : Extern.find fn = some (Extern.Atomic.update (Op.intArith .add) k true)) : AtS P f k (gAdd k) := by
  intro a x cs c ny w h hc hz
  unfold gAdd at h
  split at h
  case h_2 => cases h
  split at h
  case isFalse => cases h
  rename_i hj
  subst hj
  injection h with h
  injection h with h1 h2
  subst h1 h2
  exact ⟨fun r => .i _ _, run_call_add hf hname hb hn _ he hc hz (by simp [Op.intArith])⟩
theorem gSwap_ok (he : Extern.find fn = some (Extern.Atomic.swapT (.int k))) : AtS P f k (gSwap k) := by
  intro a x cs c ny w h hc hz
  unfold gSwap at h
  split at h
  case h_2 => cases h
  split at h
  case isFalse => cases h
  rename_i j y hj
  subst hj
  injection h with h
  injection h with h1 h2
  subst h1 h2
  refine ⟨fun r => .i _ _, ?_⟩
  show (callFunc f #[.pointer (some a), .int j y]).run P w = .ok (.value (.int j x)) (w.setCell a (.int j y))
  rw [run_callFunc_extern hf hname hb hn he]
  change (Sem.run P (do
    let a' ← asAddr (.pointer (some a))
    let old ← Extern.Atomic.read (.int j) a'
    store a' (.int j y) .atomic
    pure old) w).andThen _ = _
  simp [Extern.Atomic.read, asAddr, hc, hz, run_store P w a (.int j y) .atomic rfl, Result.andThen]
theorem gCas_ok (he : Extern.find fn = some (Extern.Atomic.casT (.int k))) : AtS P f k (gCas k) := by
  intro a x cs c ny w h hc hz
  unfold gCas at h
  split at h
  case h_2 => cases h
  split at h
  case isFalse => cases h
  rename_i j o m y hj
  obtain ⟨rfl, rfl⟩ := hj
  split at h
  · rename_i hx
    subst hx
    injection h with h
    injection h with h1 h2
    subst h1 h2
    exact ⟨fun r => .b _, run_call_cas_hit hf hname hb hn _ he hc hz⟩
  · rename_i hx
    injection h with h
    injection h with h1 h2
    subst h1 h2
    exact ⟨fun r => .b _, run_call_cas_miss hf hname hb hn _ he hc hz hx⟩
end
end Go.Proofs.YtgbfbeohmogadaaGreat
