/- Joined: Xq26, Xq27, Base, Top1, Top2, Top3, Top4, Top5, Turn, Top6, Pa1, Pa3, On2, Xq28, WoN1. -/
import Derived.Laws.LoneSync
import Derived.WalkKit
import Derived.WalkSpells
import Derived.WalkLawsBesides
import Derived.ProofKit
import Derived.Below
import Derived.Outline
import Derived.Lib.Hide
import Derived.Deep.QuietTactic
import Derived.BigQuiet
import Derived.Deep.Draws
import Derived.Test.YtagajjilccjplaaGreatRows
import Derived.RegionCalls
import Derived.Laws.OwnMore
import Derived.OwnWalk
import Derived.Maps.AppendAt
import Derived.Deep.RegionHeld3
import Derived.Deep.DeepCutAuto
import Derived.Tactics
import Derived.Tactics2
import Derived.Defers
import Derived.Laws.Pointers
import Derived.RegionTactic
import Derived.ChangeAlike
import Derived.Test.YtagajjilccjplaaGreatMgWorldNone3
section
set_option linter.unusedVariables false
set_option linter.unusedSimpArgs false
/- Running closed code: atomic loads and stores; sync.Once. -/
namespace Go.Proofs.YtagajjilccjplaaGreat
open Go.RowKit
set_option linter.unusedVariables false

theorem BR.cell {r : Nm} {w : World} {B : Bk} {b sz : Nat} (h : BR r w B b sz) {o : Nat} (ho : o < B.n) : ∃ v, w.cell? ⟨b, o, none⟩ = some v ∧ CR r (B.cell o) v := by
  obtain ⟨cs, hg, hsz, hn, hc⟩ := h.ex (h.nomap (by omega))
  obtain ⟨v, hv, hr⟩ := hc o ho
  exact ⟨v, by rw [cell_of_row w b o cs B.e (0, 0) hg]; exact hv, hr⟩
theorem BR.frozen {r : Nm} {w : World} {B : Bk} {b sz : Nat} (h : BR r w B b sz) (o : Nat) : w.frozen? ⟨b, o, none⟩ = false := by
  cases hm : B.mp with
  | none => obtain ⟨cs, hg, _⟩ := h.ex hm; simp [World.frozen?, hg]
  | some l => obtain ⟨_, es, clk, hg, _⟩ := h.mx l hm; simp [World.frozen?, hg]
theorem BR.int {r : Nm} {w : World} {B : Bk} {b sz : Nat} (h : BR r w B b sz) {o : Nat} (ho : o < B.n) {k : IntKind} {x : Int} (e : B.cell o = .i k x) : w.cell? ⟨b, o, none⟩ = some (.int k x) := by
  obtain ⟨v, hv, hr⟩ := h.cell ho
  rw [e] at hr
  cases hr
  exact hv
theorem setCell_old (w : World) (b o : Nat) (v : Value) (c : Nat) (h : c ≠ b) : (w.setCell ⟨b, o, none⟩ v).heap[c]? = w.heap[c]? := by
  simp [World.setCell, Array.getElem?_modify]
  intro e; exact absurd e.symm h
theorem BR.setCell {r : Nm} {w : World} {B : Bk} {b sz : Nat} (h : BR r w B b sz) {o : Nat} (ho : o < B.n) {c : C} {v : Value} (hv : CR r c v) : BR r (w.setCell ⟨b, o, none⟩ v) (B.put o [c]) b sz := by
  have hm := h.nomap (by omega)
  obtain ⟨cs, hg, hsz, hn, hc⟩ := h.ex hm
  refine ⟨fun l hl => absurd (hm.symm.trans hl) (by simp), fun _ => ⟨cs.setIfInBounds o v, ?_, by simpa using hsz, hn, fun j hj => ?_⟩⟩
  · simp [World.setCell, Array.getElem?_modify, hg]
    rfl
  · rw [Bk.put_cell]
    by_cases e : j = o
    · subst e
      refine ⟨v, by rw [Array.getElem?_setIfInBounds_self_of_lt (by omega)], ?_⟩
      rw [if_pos ⟨Nat.le_refl _, Nat.lt_succ_self _⟩, Nat.sub_self]
      exact hv
    · obtain ⟨u, hu, hr⟩ := hc j hj
      refine ⟨u, by rw [Array.getElem?_setIfInBounds_ne (Ne.symm e)]; exact hu, ?_⟩
      rw [if_neg (by rw [List.length_singleton]; omega)]
      exact hr
theorem mv_cell {nx : Nat} {r : Nm} {H : Hp} {w : World} (h : RelH r H w) {k : Nat} {B : Bk} (hk : H.get k = some B) {b sz : Nat} (rk : r k = some (b, sz)) {o : Nat} (ho : o < B.n) {c : C} {v : Value} (hv : CR r c v) :
    Mv nx r H w nx r (H.set k (B.put o [c])) (w.setCell ⟨b, o, none⟩ v) := by
  obtain ⟨b', sz', rk', hB⟩ := h.at_ k B hk
  rw [rk] at rk'
  injection rk' with rk'
  injection rk' with e1 e2
  subst e1 e2
  exact mv_upd h hk rk (hB.setCell ho hv) (fun c hc => setCell_old w b o v c hc) rfl rfl rfl (by simp [World.setCell])
/-! ### Atomic loads and stores -/
def extL (f0 : FuncId) (k : IntKind) : ExtF := fun f xs H => if f = f0 then match xs with
  | [.w (.c (.p (some (n, o))))] => match H.get n with
    | some B => if o < B.n then match B.cell o with
      | .i j x => if j = k then some (.w (.c (.i k x)), H) else none
      | _ => none
      else none
    | none => none
  | _ => none
  else none
def extW (f0 : FuncId) (k : IntKind) : ExtF := fun f xs H => if f = f0 then match xs with
  | [.w (.c (.p (some (n, o)))), .w (.c (.i j x))] => if j = k then match H.get n with
    | some B => if o < B.n then some (.t [], H.set n (B.put o [.i k x])) else none
    | none => none
    else none
  | _ => none
  else none
def extOr (a b : ExtF) : ExtF := fun f xs H => match a f xs H with
  | some z => some z
  | none => b f xs H
theorem extOr_ok {P : Program} {a b : ExtF} (ha : ExtS P a) (hb : ExtS P b) : ExtS P (extOr a b) := by
  intro f xs H v H' h
  unfold extOr at h
  split at h
  · rename_i z hz
    injection h with h
    subst h
    exact ha f xs H v H' hz
  · exact hb f xs H v H' h
theorem extL_ok {P : Program} {f0 : FuncId} {k : IntKind} (hl : ∀ (a : Addr) (x : Int) (w : World), w.cell? a = some (.int k x) → (callFunc f0 #[.pointer (some a)]).run P w = .ok (.value (.int k x)) w) : ExtS P (extL f0 k) := by
  intro f xs H v H' h r w us hu hH
  unfold extL at h
  split at h
  case isFalse => cases h
  rename_i hf
  subst hf
  split at h
  case h_2 => cases h
  rename_i n o
  split at h
  case h_2 => cases h
  rename_i B hB
  split at h
  case isFalse => cases h
  rename_i ho
  split at h
  case h_2 => cases h
  rename_i j x hc
  split at h
  case isFalse => cases h
  rename_i hj
  subst hj
  injection h with h
  injection h with h1 h2
  subst h1 h2
  cases hu with | cons hx ht => cases ht with | nil => cases hx with | w hx => cases hx with | c hx => cases hx with | p rk =>
  obtain ⟨b, sz, rk', hBR⟩ := hH.at_ n B hB
  rw [rk] at rk'
  injection rk' with rk'
  injection rk' with e1 e2
  subst e1 e2
  exact ⟨_, w, hl _ x w (hBR.int ho hc), .w (.c (.i _ _)), fun nx => Mv.refl hH⟩
theorem extW_ok {P : Program} {f0 : FuncId} {k : IntKind} (hl : ∀ (a : Addr) (u : Value) (y : Int) (w : World), w.cell? a = some u → w.frozen? a = false → (callFunc f0 #[.pointer (some a), .int k y]).run P w = .ok (.value (.tuple #[])) (w.setCell a (.int k y))) : ExtS P (extW f0 k) := by
  intro f xs H v H' h r w us hu hH
  unfold extW at h
  split at h
  case isFalse => cases h
  rename_i hf
  subst hf
  split at h
  case h_2 => cases h
  rename_i n o j x
  split at h
  case isFalse => cases h
  rename_i hj
  subst hj
  split at h
  case h_2 => cases h
  rename_i B hB
  split at h
  case isFalse => cases h
  rename_i ho
  injection h with h
  injection h with h1 h2
  subst h1 h2
  cases hu with | cons hx ht => cases ht with | cons hy ht => cases ht with | nil => cases hx with | w hx => cases hx with | c hx => cases hx with | p rk =>
  cases hy with | w hy => cases hy with | c hy => cases hy with | i =>
  obtain ⟨b, sz, rk', hBR⟩ := hH.at_ n B hB
  rw [rk] at rk'
  injection rk' with rk'
  injection rk' with e1 e2
  subst e1 e2
  obtain ⟨u, hcu, _⟩ := hBR.cell ho
  exact ⟨_, _, hl _ u x w hcu (hBR.frozen o), .t .nil, fun nx => mv_cell hH hB rk ho (.i _ _)⟩
/-! ### sync.Once -/
def onceEndW (b off : Nat) (w2 : World) : World := (w2.drew.setCell ⟨b, off, none⟩ (.int .u32 1)).setCell ⟨b, off + 1, none⟩ (.int .i32 0)
structure OnceH (b off : Nat) (w : World) : Prop where
  c0 : w.cell? ⟨b, off, none⟩ = some (.int .u32 0)
  c1 : w.cell? ⟨b, off + 1, none⟩ = some (.int .i32 1)
  f0 : w.frozen? ⟨b, off, none⟩ = false
  f1 : w.frozen? ⟨b, off + 1, none⟩ = false
/-- what doSlow does, given what the function does -/
def OnceS (P : Program) (fSlow fn : FuncId) : Prop := ∀ (b off : Nat) (x : Value) (w : World) (R : World → Prop), w.cell? ⟨b, off, none⟩ = some (.int .u32 0) → w.cell? ⟨b, off + 1, none⟩ = some (.int .i32 0) →
  w.frozen? ⟨b, off, none⟩ = false → w.frozen? ⟨b, off + 1, none⟩ = false →
  Calls P fn #[x] (w.setCell ⟨b, off + 1, none⟩ (.int .i32 1)) (fun e w2 => e = .returned (.tuple #[]) ∧ OnceH b off w2 ∧ R w2) →
  Calls P fSlow #[.pointer (some ⟨b, off, none⟩), .func (.func fn) #[x] #[]] w fun e w' => e = .returned (.tuple #[]) ∧ ∃ w2, R w2 ∧ w' = onceEndW b off w2
def isI : C → IntKind → Int → Bool
  | .i j x, k, y => decide (j = k) && x == y
  | _, _, _ => false
theorem isI_ok {c : C} {k : IntKind} {y : Int} (h : isI c k y = true) : c = .i k y := by
  cases c <;> simp [isI] at h
  obtain ⟨rfl, rfl⟩ := h
  rfl
def spOnce (fSlow fn : FuncId) : SpF := fun call f xs H nx => if f = fSlow then match xs with
  | [.w (.c (.p (some (k, o)))), .w (.c (.f g [a] []))] => if g = fn then match H.get k with
    | some B => if Nat.blt (o + 1) B.n && isI (B.cell o) .u32 0 && isI (B.cell (o + 1)) .i32 0 then
        match call fn [.w (.c (.p (some a)))] (H.set k (B.put (o + 1) [.i .i32 1])) nx with
        | some (.t [], H1, nx1) => match H1.get k with
          | some B1 => if Nat.blt (o + 1) B1.n && isI (B1.cell o) .u32 0 && isI (B1.cell (o + 1)) .i32 1 then
              some (.t [], (H1.set k (B1.put o [.i .u32 1])).set k ((B1.put o [.i .u32 1]).put (o + 1) [.i .i32 0]), nx1)
            else none
          | none => none
        | _ => none
      else none
    | none => none
    else none
  | _ => none
  else none
theorem spOnce_ok {P : Program} {fSlow fn : FuncId} (hS : OnceS P fSlow fn) : SpS P (spOnce fSlow fn) := by
  intro call hcall f xs H nx v H' nx' h r w us hu hH hf
  unfold spOnce at h
  split at h
  case isFalse => cases h
  rename_i hff
  subst hff
  split at h
  case h_2 => cases h
  rename_i k o g a
  split at h
  case isFalse => cases h
  rename_i hg
  subst hg
  split at h
  case h_2 => cases h
  rename_i B hB
  split at h
  case isFalse => cases h
  rename_i hc
  simp only [Bool.and_eq_true] at hc
  obtain ⟨⟨hn, hc0⟩, hc1⟩ := hc
  have hn := blt_of hn
  split at h
  case h_2 => cases h
  rename_i H1 nx1 hcl
  split at h
  case h_2 => cases h
  rename_i B1 hB1
  split at h
  case isFalse => cases h
  rename_i hd
  simp only [Bool.and_eq_true] at hd
  obtain ⟨⟨hm, hd0⟩, hd1⟩ := hd
  have hm := blt_of hm
  injection h with h
  injection h with h1 h2
  injection h2 with h2 h3
  subst h1 h2 h3
  cases hu with | cons hx ht => cases ht with | cons hy ht => cases ht with | nil => cases hx with | w hx => cases hx with | c hx => cases hx with | p rk =>
  rename_i b sz
  cases hy with | w hy => cases hy with | c hy => cases hy with | f _ ha hcp =>
  cases hcp
  cases ha with | cons rka ha =>
  cases ha with | nil =>
  rename_i ka oa ba sza
  obtain ⟨b', sz', rk', hBR⟩ := hH.at_ k B hB
  rw [rk] at rk'
  injection rk' with rk'
  injection rk' with e1 e2
  subst e1 e2
  have m1 : Mv nx r H w nx r (H.set k (B.put (o + 1) [.i .i32 1])) (w.setCell ⟨b, o + 1, none⟩ (.int .i32 1)) := mv_cell hH hB rk hn (.i _ _)
  have hfind := hcall _ _ _ _ _ _ _ hcl r (w.setCell ⟨b, o + 1, none⟩ (.int .i32 1)) [ptrOf ba oa] (.cons (.w (.c (.p rka))) .nil) m1.rel hf
  have hres := hS b o (ptrOf ba oa) w (fun w2 => ∃ r1, Mv nx r (H.set k (B.put (o + 1) [.i .i32 1])) (w.setCell ⟨b, o + 1, none⟩ (.int .i32 1)) nx1 r1 H1 w2 ∧ fresh r1 nx1)
    (hBR.int (by omega) (isI_ok hc0)) (hBR.int hn (isI_ok hc1)) (hBR.frozen o) (hBR.frozen (o + 1)) (hfind.mono fun e w2 ⟨r1, u, he, hv, hmv, hfr⟩ => by
      cases hv with | t hv =>
      cases hv with | nil =>
      have rk1 := hmv.le _ _ rk
      obtain ⟨b', sz', rk', hBR1⟩ := hmv.rel.at_ k B1 hB1
      rw [rk1] at rk'
      injection rk' with rk'
      injection rk' with e1 e2
      subst e1 e2
      exact ⟨he, ⟨hBR1.int (by omega) (isI_ok hd0), hBR1.int hm (isI_ok hd1), hBR1.frozen o, hBR1.frozen (o + 1)⟩, r1, hmv, hfr⟩)
  refine hres.mono fun e w' ⟨he, w2, ⟨r1, hmv, hfr⟩, hw'⟩ => ?_
  subst hw'
  have rk1 := hmv.le _ _ rk
  have m2 : Mv nx1 r1 H1 w2.drew nx1 r1 (H1.set k (B1.put o [.i .u32 1])) (w2.drew.setCell ⟨b, o, none⟩ (.int .u32 1)) := mv_cell hmv.drew.rel hB1 rk1 (by omega) (.i _ _)
  have m3 : Mv nx1 r1 (H1.set k (B1.put o [.i .u32 1])) (w2.drew.setCell ⟨b, o, none⟩ (.int .u32 1)) nx1 r1 ((H1.set k (B1.put o [.i .u32 1])).set k ((B1.put o [.i .u32 1]).put (o + 1) [.i .i32 0])) (onceEndW b o w2) :=
    mv_cell m2.rel (by rw [Tr.get_set, if_pos rfl]) rk1 (by show o + 1 < B1.n; exact hm) (.i _ _)
  exact ⟨r1, _, he, .t .nil, ((m1.trans hmv).trans m2.from_drew).trans m3, hfr⟩
end Go.Proofs.YtagajjilccjplaaGreat
end
section
set_option linter.unusedVariables false
set_option linter.unusedSimpArgs false
/- Running closed code: atomic sums, swaps, compare-and-swaps. -/
namespace Go.Proofs.YtagajjilccjplaaGreat
open Go.RowKit
set_option linter.unusedVariables false

def vI : C → Value
  | .i k n => .int k n
  | .b x => .bool x
  | _ => undef
def intsOf : List V → Option (List C)
  | [] => some []
  | .w (.c (.i k n)) :: l => match intsOf l with
    | some cs => some (.i k n :: cs)
    | none => none
  | _ => none
theorem intsOf_ok {r : Nm} {xs : List V} {us : List Value} (h : VsR r xs us) : ∀ {cs : List C}, intsOf xs = some cs → us = cs.map vI := by
  induction h with
  | nil => intro cs e; injection e with e; subst e; rfl
  | cons hx _ ih =>
    intro cs e
    unfold intsOf at e
    split at e
    · rename_i heq; cases heq
    · rename_i k n l heq
      injection heq with h1 h2
      subst h1 h2
      split at e
      · rename_i cs' hcs
        injection e with e
        subst e
        cases hx with | w hx => cases hx with | c hx => cases hx with | i =>
        rw [ih hcs]; rfl
      · cases e
    · cases e
/-- what an atomic operation makes of a cell's number: its answer, what it stores -/
abbrev AtF := Int → List C → Option (C × Option Int)
def extG (f0 : FuncId) (k : IntKind) (g : AtF) : ExtF := fun f xs H => if f = f0 then match xs with
  | .w (.c (.p (some (n, o)))) :: rest => match intsOf rest, H.get n with
    | some cs, some B => if o < B.n then match B.cell o with
      | .i j x => if j = k then match g x cs with
        | some (c, none) => some (.w (.c c), H)
        | some (c, some y) => some (.w (.c c), H.set n (B.put o [.i k y]))
        | none => none
        else none
      | _ => none
      else none
    | _, _ => none
  | _ => none
  else none
def AtS (P : Program) (f0 : FuncId) (k : IntKind) (g : AtF) : Prop := ∀ (a : Addr) (x : Int) (cs : List C) (c : C) (ny : Option Int) (w : World), g x cs = some (c, ny) → w.cell? a = some (.int k x) → w.frozen? a = false →
  (∀ r, CR r c (vI c)) ∧ (callFunc f0 (.pointer (some a) :: cs.map vI).toArray).run P w = .ok (.value (vI c)) (match ny with | none => w | some y => w.setCell a (.int k y))
theorem extG_ok {P : Program} {f0 : FuncId} {k : IntKind} {g : AtF} (hg : AtS P f0 k g) : ExtS P (extG f0 k g) := by
  intro f xs H v H' h r w us hu hH
  unfold extG at h
  split at h
  case isFalse => cases h
  rename_i hf
  subst hf
  split at h
  case h_2 => cases h
  rename_i n o rest
  split at h
  case h_2 => cases h
  rename_i cs B hcs hB
  split at h
  case isFalse => cases h
  rename_i ho
  split at h
  case h_2 => cases h
  rename_i j x hc
  split at h
  case isFalse => cases h
  rename_i hj
  subst hj
  cases hu with | cons hx ht => cases hx with | w hx => cases hx with | c hx => cases hx with | p rk =>
  have hus := intsOf_ok ht hcs
  subst hus
  obtain ⟨b, sz, rk', hBR⟩ := hH.at_ n B hB
  rw [rk] at rk'
  injection rk' with rk'
  injection rk' with e1 e2
  subst e1 e2
  split at h
  · rename_i c hgc
    injection h with h
    injection h with h1 h2
    subst h1 h2
    obtain ⟨k1, k2⟩ := hg _ x cs c none w hgc (hBR.int ho hc) (hBR.frozen o)
    exact ⟨_, w, k2, .w (.c (k1 r)), fun nx => Mv.refl hH⟩
  · rename_i c y hgc
    injection h with h
    injection h with h1 h2
    subst h1 h2
    obtain ⟨k1, k2⟩ := hg _ x cs c (some y) w hgc (hBR.int ho hc) (hBR.frozen o)
    exact ⟨_, _, k2, .w (.c (k1 r)), fun nx => mv_cell hH hB rk ho (.i _ _)⟩
  · cases h
def gAdd (k : IntKind) : AtF := fun x cs => match cs with
  | [.i j y] => if j = k then some (.i k (k.wrap (x + y)), some (k.wrap (x + y))) else none
  | _ => none
def gSwap (k : IntKind) : AtF := fun x cs => match cs with
  | [.i j y] => if j = k then some (.i k x, some y) else none
  | _ => none
def gCas (k : IntKind) : AtF := fun x cs => match cs with
  | [.i j o, .i m y] => if j = k ∧ m = k then (if x = o then some (.b true, some y) else some (.b false, none)) else none
  | _ => none
section
variable {P : Program} {f : FuncId} {fn : Func} (hf : P.funcs[f]? = some fn) (hname : (fn.name == "runtime.NumGoroutine") = false) (hb : fn.body.isNone = true) (hn : Extern.findNext fn = none) (k : IntKind)
include hf hname hb hn
theorem gAdd_ok (he : Extern.find fn = some (Extern.Atomic.update (Op.intArith .add) k true)) : AtS P f k (gAdd k) := by
  intro a x cs c ny w h hc hz
  unfold gAdd at h
  split at h
  case h_2 => cases h
  split at h
  case isFalse => cases h
  rename_i hj
  subst hj
  injection h with h
  injection h with h1 h2
  subst h1 h2
  exact ⟨fun r => .i _ _, run_call_add hf hname hb hn _ he hc hz (by simp [Op.intArith])⟩
theorem gSwap_ok (he : Extern.find fn = some (Extern.Atomic.swapT (.int k))) : AtS P f k (gSwap k) := by
  intro a x cs c ny w h hc hz
  unfold gSwap at h
  split at h
  case h_2 => cases h
  split at h
  case isFalse => cases h
  rename_i j y hj
  subst hj
  injection h with h
  injection h with h1 h2
  subst h1 h2
  refine ⟨fun r => .i _ _, ?_⟩
  show (callFunc f #[.pointer (some a), .int j y]).run P w = .ok (.value (.int j x)) (w.setCell a (.int j y))
  rw [run_callFunc_extern hf hname hb hn he]
  change (Sem.run P (do
    let a' ← asAddr (.pointer (some a))
    let old ← Extern.Atomic.read (.int j) a'
    store a' (.int j y) .atomic
    pure old) w).andThen _ = _
  simp [Extern.Atomic.read, asAddr, hc, hz, run_store P w a (.int j y) .atomic rfl, Result.andThen]
theorem gCas_ok (he : Extern.find fn = some (Extern.Atomic.casT (.int k))) : AtS P f k (gCas k) := by
  intro a x cs c ny w h hc hz
  unfold gCas at h
  split at h
  case h_2 => cases h
  split at h
  case isFalse => cases h
  rename_i j o m y hj
  obtain ⟨rfl, rfl⟩ := hj
  split at h
  · rename_i hx
    subst hx
    injection h with h
    injection h with h1 h2
    subst h1 h2
    exact ⟨fun r => .b _, run_call_cas_hit hf hname hb hn _ he hc hz⟩
  · rename_i hx
    injection h with h
    injection h with h1 h2
    subst h1 h2
    exact ⟨fun r => .b _, run_call_cas_miss hf hname hb hn _ he hc hz hx⟩
end
end Go.Proofs.YtagajjilccjplaaGreat
end
section
set_option linter.unusedVariables false
set_option linter.unusedSimpArgs false
/- Layer 6: trees of places as lists of parents; plain data, no program in sight. -/
namespace Go.Proofs.YtagajjilccjplaaGreat
open Go.RowKit

def leafB (P : List Int) (v : Int) : Bool := decide (0 ≤ v ∧ v < P.length ∧ v ∉ P)
def leavesTo (P : List Int) (k : Nat) : List Int := ((List.range k).map Int.ofNat).filter (leafB P)
def dep (P : List Int) : Nat → Int → Nat
  | 0, _ => 0
  | f + 1, v => if 0 ≤ v ∧ v < P.length then dep P f (P.getD v.toNat 0) + 1 else 0
def depL (P : List Int) (v : Int) : Nat := dep P P.length v
end Go.Proofs.YtagajjilccjplaaGreat
end
section
set_option linter.unusedVariables false
set_option linter.unusedSimpArgs false
/- Layer 6: even trees; plain data, no program in sight. -/
namespace Go.Proofs.YtagajjilccjplaaGreat
open Go.RowKit

/-- the depth of the first leaf, 0 before there is one -/
def first (P : List Int) (k : Nat) : Nat := if leavesTo P k = [] then 0 else depL P ((leavesTo P k).headD 0)
end Go.Proofs.YtagajjilccjplaaGreat
end
section
set_option linter.unusedVariables false
set_option linter.unusedSimpArgs false
/- sync.Once, one goroutine: the parts (after the guide's own Lazy texts). -/
namespace Go.Proofs.YtagajjilccjplaaGreat
open Go.RowKit

theorem race_off (w : World) : (callFunc 160 #[]).run Tryz.prog w = .ok (.value (.tuple #[])) w := run_call_mark0 Tryz.func160 (by kernel_rfl) (by kernel_rfl) (by kernel_rfl) .disable (by kernel_rfl) w
theorem race_on (w : World) : (callFunc 162 #[]).run Tryz.prog w = .ok (.value (.tuple #[])) w := run_call_mark0 Tryz.func162 (by kernel_rfl) (by kernel_rfl) (by kernel_rfl) .enable (by kernel_rfl) w
theorem race_acquire (a : Addr) (w : World) : (callFunc 163 #[.pointer (some a)]).run Tryz.prog w = .ok (.value (.tuple #[])) w := run_call_marked Tryz.func163 (by kernel_rfl) (by kernel_rfl) (by kernel_rfl) .acquire (by kernel_rfl) a w
theorem race_release (a : Addr) (w : World) : (callFunc 165 #[.pointer (some a)]).run Tryz.prog w = .ok (.value (.tuple #[])) w := run_call_marked Tryz.func165 (by kernel_rfl) (by kernel_rfl) (by kernel_rfl) .releaseMerge (by kernel_rfl) a w
set_option maxRecDepth 100000 in
theorem ilock_free (a : Addr) (w : World) (hc : w.cell? a = some (.int .i32 0)) (hz : w.frozen? a = false) :
    Calls Tryz.prog 155 #[.pointer (some a)] w fun e w' => e = .returned (.tuple #[]) ∧ w' = w.setCell a (.int .i32 1) := by
  have hd := race_off
  have he := race_on
  have ha := race_acquire
  have hcas := run_call_cas_hit (P := Tryz.prog) Tryz.func161 (by kernel_rfl) (by kernel_rfl) (by kernel_rfl) .i32 (by kernel_rfl) (y := 1) hc hz
  have hc' : (w.setCell a (.int .i32 1)).cell? a = some (.int .i32 1) := World.cell?_setCell_same w a _ hc
  have hcv := run_convert_to_unsafe (P := Tryz.prog) (src := 337) (dst := 341) Tryz.underlying337 Tryz.underlying341 (by kernel_rfl) hc'
  go_enter Tryz.func155, Tryz.ntmps155
  go_wp2
  first | (go_end0; exact ⟨rfl, rfl⟩) | exact bodyPost_ret (results_none rfl _ _ _) rfl ⟨rfl, rfl⟩ | ((simp only [Exit.inBlock, Exit.then]); exact bodyPost_ret (results_none rfl _ _ _) rfl ⟨rfl, rfl⟩)
set_option maxRecDepth 100000 in
theorem lock_free (a : Addr) (w : World) (hc : w.cell? a = some (.int .i32 0)) (hz : w.frozen? a = false) :
    Calls Tryz.prog 147 #[.pointer (some a)] w fun e w' => e = .returned (.tuple #[]) ∧ w' = w.setCell a (.int .i32 1) := by
  have HL := Lib.hid (ilock_free a w hc hz)
  go_enter Tryz.func147, Tryz.ntmps147
  go_wp2_with fail
  refine HL.out.mono ?_
  rintro e w' ⟨rfl, rfl⟩
  go_wp2
  first | (go_end0; exact ⟨rfl, rfl⟩) | exact bodyPost_ret (results_none rfl _ _ _) rfl ⟨rfl, rfl⟩ | ((simp only [Exit.inBlock, Exit.then]); exact bodyPost_ret (results_none rfl _ _ _) rfl ⟨rfl, rfl⟩)
set_option maxRecDepth 100000 in
theorem iunlock_held (a : Addr) (w : World) (hc : w.cell? a = some (.int .i32 1)) (hz : w.frozen? a = false) :
    Calls Tryz.prog 156 #[.pointer (some a)] w fun e w' => e = .returned (.tuple #[]) ∧ w' = w.setCell a (.int .i32 0) := by
  have hd := race_off
  have he := race_on
  have hr := race_release
  have hadd := run_call_add (P := Tryz.prog) Tryz.func166 (by kernel_rfl) (by kernel_rfl) (by kernel_rfl) .i32 (by kernel_rfl) (y := -1) (s := 0) hc hz (by simp [go_sem]; rfl)
  have hcv := run_convert_to_unsafe (P := Tryz.prog) (src := 337) (dst := 341) Tryz.underlying337 Tryz.underlying341 (by kernel_rfl) hc
  go_enter Tryz.func156, Tryz.ntmps156
  go_wp2
  first | (go_end0; exact ⟨rfl, rfl⟩) | exact bodyPost_ret (results_none rfl _ _ _) rfl ⟨rfl, rfl⟩ | ((simp only [Exit.inBlock, Exit.then]); exact bodyPost_ret (results_none rfl _ _ _) rfl ⟨rfl, rfl⟩)
set_option maxRecDepth 100000 in
theorem unlock_deferred (a : Addr) (u : FrameMode) (w : World) (hc : w.cell? a = some (.int .i32 1)) (hz : w.frozen? a = false) :
    CallsD Tryz.prog 148 #[.pointer (some a)] u w fun e u' w' => u' = u ∧ (e = .returned (.tuple #[]) ∧ w' = w.setCell a (.int .i32 0)) := by
  have HL := Lib.hid (iunlock_held a w hc hz)
  go_enter_d Tryz.func148, Tryz.ntmps148
  go_wp2_with fail
  refine HL.out.mono ?_
  rintro e w' ⟨rfl, rfl⟩
  go_wp2
  first | (go_end0; exact ⟨rfl, rfl⟩) | exact bodyPost_ret (results_none rfl _ _ _) rfl ⟨rfl, rfl⟩ | ((simp only [Exit.inBlock, Exit.then]); exact bodyPost_ret (results_none rfl _ _ _) rfl ⟨rfl, rfl⟩)
set_option maxRecDepth 100000 in
theorem store_deferred (a : Addr) (x : Value) (u : FrameMode) (w : World) (hc : w.cell? a = some x) (hz : w.frozen? a = false) :
    CallsD Tryz.prog 149 #[.pointer (some a), .bool true] u w fun e u' w' => u' = u ∧ (e = .returned (.tuple #[]) ∧ w' = w.drew.setCell a (.int .u32 1)) := by
  have hc' : w.drew.cell? a = some x := by go_simp
  have hz' : w.drew.frozen? a = false := by go_simp
  have hst := run_call_store (P := Tryz.prog) Tryz.func157 (by kernel_rfl) (by kernel_rfl) (by kernel_rfl) (by kernel_rfl) (k := .u32) (y := 1) hc' hz'
  go_enter_d Tryz.func149, Tryz.ntmps149
  go_wp2
  go_region_calls
  all_goals (go_end0; exact ⟨rfl, rfl⟩)
theorem bool_load (a : Addr) (n : Int) (w : World) (hc : w.cell? a = some (.int .u32 n)) : Calls Tryz.prog 128 #[.pointer (some a)] w fun e w' => e = .returned (.bool (n != 0)) ∧ w = w' := by
  have hl := run_call_load (P := Tryz.prog) Tryz.func146 (by kernel_rfl) (by kernel_rfl) (by kernel_rfl) .u32 (by kernel_rfl) hc
  go_enter Tryz.func128, Tryz.ntmps128
  go_wp2
  go_ret
  exact ⟨rfl, rfl⟩
end Go.Proofs.YtagajjilccjplaaGreat
end
section
set_option linter.unusedVariables false
set_option linter.unusedSimpArgs false
/- sync.Once, one goroutine: doSlow, Do. -/
namespace Go.Proofs.YtagajjilccjplaaGreat
open Go.RowKit
set_option linter.unusedVariables false

/-- what is left behind Do, the first time: w2 is the world behind the function's own call -/
def onceEnd (b off : Nat) (w2 : World) : World := (w2.drew.setCell ⟨b, off, none⟩ (.int .u32 1)).setCell ⟨b, off + 1, none⟩ (.int .i32 0)
/-- the once's two cells while the function runs -/
structure OnceHeld (b off : Nat) (w : World) : Prop where
  c0 : w.cell? ⟨b, off, none⟩ = some (.int .u32 0)
  c1 : w.cell? ⟨b, off + 1, none⟩ = some (.int .i32 1)
  f0 : w.frozen? ⟨b, off, none⟩ = false
  f1 : w.frozen? ⟨b, off + 1, none⟩ = false
set_option maxRecDepth 100000 in
set_option maxHeartbeats 1600000 in
theorem slow_any (b off fn : Nat) (x : Value) (w : World) (R : World → Prop) (h0 : w.cell? ⟨b, off, none⟩ = some (.int .u32 0)) (h1 : w.cell? ⟨b, off + 1, none⟩ = some (.int .i32 0))
    (f0 : w.frozen? ⟨b, off, none⟩ = false) (f1 : w.frozen? ⟨b, off + 1, none⟩ = false) (hfn : fn = 93)
    (hc : Calls Tryz.prog 93 #[x] (w.setCell ⟨b, off + 1, none⟩ (.int .i32 1)) fun e w2 => e = .returned (.tuple #[]) ∧ OnceHeld b off w2 ∧ R w2) :
    Calls Tryz.prog 129 #[.pointer (some ⟨b, off, none⟩), .func (.func fn) #[x] #[]] w fun e w' => e = .returned (.tuple #[]) ∧ ∃ w2, R w2 ∧ w' = onceEnd b off w2 := by
  subst hfn
  have HC := Lib.hid hc
  have HL := Lib.hid (bool_load ⟨b, off, none⟩ 0 (w.setCell ⟨b, off + 1, none⟩ (.int .i32 1)) ((World.cell?_setCell_other _ ⟨b, off + 1, none⟩ ⟨b, off, none⟩ _ (by simp)).trans h0))
  clear hc
  go_enter_defers Tryz.func129, Tryz.ntmps129
  go_wp2_with fail
  refine (lock_free ⟨b, off + 1, none⟩ _ h1 f1).mono ?_
  rintro e w' ⟨rfl, rfl⟩
  go_wp2_with fail
  refine HL.out.mono ?_
  rintro e w' ⟨rfl, rfl⟩
  go_wp2_with fail
  refine HC.out.mono ?_
  rintro e w2 ⟨rfl, hO, hR⟩
  have HO := Lib.hid (And.intro hO hR)
  clear hO hR
  go_wp2
  refine leaves_cons (f := 149) (args := #[.pointer (some ⟨b, off, none⟩), .bool true]) (by simp) (by simp [go_sem]) ?_
  refine (store_deferred ⟨b, off, none⟩ (.int .u32 0) .returning _ HO.out.1.c0 HO.out.1.f0).mono ?_
  rintro e u' w'' ⟨rfl, rfl, rfl⟩
  refine leaves_cons (f := 148) (args := #[.pointer (some ⟨b, off + 1, none⟩)]) (by simp [settle]) (by simp [go_sem]) ?_
  refine (unlock_deferred ⟨b, off + 1, none⟩ _ _ ?_ ?_).mono ?_
  · exact (World.cell?_setCell_other _ ⟨b, off, none⟩ ⟨b, off + 1, none⟩ _ (by simp)).trans HO.out.1.c1
  · have := HO.out.1.f1
    simp [this]
  rintro e u' w'' ⟨rfl, rfl, rfl⟩
  have HE : ∃ w3, R w3 ∧ (w2.drew.setCell ⟨b, off, none⟩ (.int .u32 1)).setCell ⟨b, off + 1, none⟩ (.int .i32 0) = onceEnd b off w3 := ⟨w2, HO.out.2, rfl⟩
  simp [Leaves, settle, results, Tryz.results129]
  exact HE
end Go.Proofs.YtagajjilccjplaaGreat
end
section
set_option linter.unusedVariables false
set_option linter.unusedSimpArgs false
/- sync.Once for the runner, out of the walk of doSlow. -/
namespace Go.Proofs.YtagajjilccjplaaGreat
open Go.RowKit
theorem once_find : OnceS Tryz.prog 129 93 := fun b off x w R h0 h1 f0 f1 hc =>
  slow_any b off _ x w R h0 h1 f0 f1 rfl (hc.mono fun _ _ ⟨q1, q2, q3⟩ => ⟨q1, ⟨q2.c0, q2.c1, q2.f0, q2.f1⟩, q3⟩)
end Go.Proofs.YtagajjilccjplaaGreat
end
section
set_option linter.unusedVariables false
set_option linter.unusedSimpArgs false
/- Running closed code: a call with arguments and memory, run; numbers that are not known. -/
namespace Go.Proofs.YtagajjilccjplaaGreat
open Go.RowKit
set_option linter.unusedVariables false

theorem runs_ok {P : Program} {ext : ExtF} {sp : SpF} {dr : DrawF} (hext : ExtS P ext) (hsp : SpS P sp) (hdr : DrawS P ext dr) {m : Nat} {f : FuncId} {xs : List V} {H H' : Hp} {nx nx' : Nat} {v : V}
    (h : callF P (run P ext sp dr m) f xs H nx = some (v, H', nx')) {r : Nm} {w : World} {us : List Value} (hu : VsR r xs us) (hH : RelH r H w) (hf : fresh r nx) :
    Calls P f us.toArray w fun e w' => ∃ r' u, e = .returned u ∧ VR r' v u ∧ Mv nx r H w nx' r' H' w' ∧ fresh r' nx' :=
  callF_ok (run_ok hext hsp hdr m).1 f xs H nx v H' nx' h r w us hu hH hf
theorem relH_nil (r : Nm) (w : World) : RelH r .nil w := ⟨fun k B hk => (by cases hk), fun k j B D b s t hk => (by cases hk)⟩
/-- a whole number as a name's numbers -/
def oE (x : Int) : Nat × Nat := if 0 ≤ x then (x.toNat, 0) else ((-x).toNat, 1)
theorem oV_oE (x : Int) : oV (oE x).1 (oE x).2 = x := by
  unfold oE
  split
  · show (if 0 = 0 then ((x.toNat : Nat) : Int) else _) = x
    rw [if_pos rfl]; omega
  · show (if 1 = 0 then _ else -(((-x).toNat : Nat) : Int)) = x
    rw [if_neg (by decide)]; omega
/-- names for numbers that are not known -/
def oNm (l : List Int) : Nm := fun k => (l[k]?).map oE
theorem oNm_fresh (l : List Int) : fresh (oNm l) l.length := fun j hj => by
  unfold oNm
  rw [List.getElem?_eq_none hj]; rfl
theorem CR.num {l : List Int} {k : Nat} {x : Int} (h : l[k]? = some x) {f : List (Nat × Int × Bool)} (hf : ∀ q ∈ f, cmpC q.1 x q.2.1 = some q.2.2) : CR (oNm l) (.o k f) (.int .i64 x) := by
  have h0 : oNm l k = some ((oE x).1, (oE x).2) := by unfold oNm; rw [h]; rfl
  have := CR.o (r := oNm l) (f := f) h0 (by rw [oV_oE]; exact hf)
  rw [oV_oE] at this
  exact this
/-- it returns true, whatever numbers stand for the names -/
def runsT (P : Program) (ext : ExtF) (sp : SpF) (dr : DrawF) (m : Nat) (f : FuncId) (xs : List V) (nx : Nat) : Bool := match callF P (run P ext sp dr m) f xs .nil nx with
  | some (.w (.c (.b true)), _, _) => true
  | _ => false
theorem runsT_ok {P : Program} {ext : ExtF} {sp : SpF} {dr : DrawF} (hext : ExtS P ext) (hsp : SpS P sp) (hdr : DrawS P ext dr) {m : Nat} {f : FuncId} {xs : List V} (l : List Int) (h : runsT P ext sp dr m f xs l.length = true) (w : World) {us : List Value} (hu : VsR (oNm l) xs us) :
    Calls P f us.toArray w fun e w' => e = .returned (.bool true) ∧ Below w.heap.size w w' := by
  unfold runsT at h
  split at h
  · rename_i H' nx' hc
    refine (runs_ok hext hsp hdr hc hu (relH_nil _ w) (oNm_fresh l)).mono fun e w' ⟨r', u, he, hv, hmv, _⟩ => ?_
    cases hv with | w hv => cases hv with | c hv => cases hv with | b =>
    exact ⟨he, ⟨hmv.os, hmv.tape, hmv.output, hmv.size, fun b hb => hmv.block b hb fun k B s hk => by cases hk⟩⟩
  · cases h
end Go.Proofs.YtagajjilccjplaaGreat
end
section
set_option linter.unusedVariables false
set_option linter.unusedSimpArgs false
/- Running closed code: the seat's own functions without a body, its Once; the law WorldNone. -/
namespace Go.Proofs.YtagajjilccjplaaGreat
open Go.RowKit

def extA : ExtF := extOr (extL 146 .u32) (extOr (extL 96 .i64) (extOr (extW 159 .i64) (extOr (extG 263 .i64 (gAdd .i64)) (extOr (extG 233 .i64 (gSwap .i64)) (extG 234 .i64 (gCas .i64))))))
def spA : SpF := spOnce 129 93
theorem extA_ok : ExtS Tryz.prog extA := extOr_ok (extL_ok fun a x w hc => run_call_load Tryz.func146 (by kernel_rfl) (by kernel_rfl) (by kernel_rfl) .u32 (by kernel_rfl) hc) (extOr_ok (extL_ok fun a x w hc => run_call_load Tryz.func96 (by kernel_rfl) (by kernel_rfl) (by kernel_rfl) .i64 (by kernel_rfl) hc) (extOr_ok (extW_ok fun a u y w hc hz => run_call_store Tryz.func159 (by kernel_rfl) (by kernel_rfl) (by kernel_rfl) (by kernel_rfl) hc hz) (extOr_ok (extG_ok (gAdd_ok Tryz.func263 (by kernel_rfl) (by kernel_rfl) (by kernel_rfl) .i64 (by kernel_rfl))) (extOr_ok (extG_ok (gSwap_ok Tryz.func233 (by kernel_rfl) (by kernel_rfl) (by kernel_rfl) .i64 (by kernel_rfl))) (extG_ok (gCas_ok Tryz.func234 (by kernel_rfl) (by kernel_rfl) (by kernel_rfl) .i64 (by kernel_rfl)))))))
theorem spA_ok : SpS Tryz.prog spA := spOnce_ok once_find
def lessF : List (Nat × Int × Bool) := [(2, 0, true), (5, 0, false)]
def moreF : List (Nat × Int × Bool) := [(2, 0, false), (5, 0, true)]
set_option maxRecDepth 1000000 in
theorem runsLess : runsT Tryz.prog extA spA (drawR Tryz.prog extA) 3000 4 [.w (.a [.o 0 lessF, .o 1 []])] 2 = true := by decide +kernel
set_option maxRecDepth 1000000 in
theorem runsMore : runsT Tryz.prog extA spA (drawR Tryz.prog extA) 3000 4 [.w (.a [.o 0 moreF, .o 1 []])] 2 = true := by decide +kernel
theorem none41 (w : World) (t k : Int) : Calls Tryz.prog 4 #[.agg #[.int .i64 t, .int .i64 k]] w fun e w' => e = .returned (.bool true) ∧ Below w.heap.size w w' := by
  by_cases ht : t < 0
  · refine runsT_ok (us := [.agg #[.int .i64 t, .int .i64 k]]) extA_ok spA_ok (drawR_ok _ _ extA_ok) [t, k] runsLess w ?_
    refine .cons (.w (.a (vs := [.int .i64 t, .int .i64 k]) (.cons (CR.num rfl fun q hq => ?_) (.cons (CR.num rfl fun q hq => (by cases hq)) .nil)))) .nil
    simp only [lessF, List.mem_cons, List.not_mem_nil, or_false] at hq
    rcases hq with rfl | rfl <;> simp [cmpC] <;> omega
  · refine runsT_ok (us := [.agg #[.int .i64 t, .int .i64 k]]) extA_ok spA_ok (drawR_ok _ _ extA_ok) [t, k] runsMore w ?_
    refine .cons (.w (.a (vs := [.int .i64 t, .int .i64 k]) (.cons (CR.num rfl fun q hq => ?_) (.cons (CR.num rfl fun q hq => (by cases hq)) .nil)))) .nil
    simp only [moreF, List.mem_cons, List.not_mem_nil, or_false] at hq
    rcases hq with rfl | rfl <;> simp [cmpC] <;> omega
end Go.Proofs.YtagajjilccjplaaGreat
end
