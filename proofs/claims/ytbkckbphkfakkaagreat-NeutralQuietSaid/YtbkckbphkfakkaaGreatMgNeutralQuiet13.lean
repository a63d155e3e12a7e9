/- Joined: Xq26, Xq27, On2, Aw36, Qn9. -/
import Derived.Laws.LoneSync
import Derived.Deep.DeepCutAuto
import Derived.Test.YtbkckbphkfakkaaGreatMgNeutralQuiet1
import Derived.Test.YtbkckbphkfakkaaGreatMgNeutralQuiet3
import Derived.Test.YtbkckbphkfakkaaGreatMgNeutralQuiet8
import Derived.Test.YtbkckbphkfakkaaGreatMgNeutralQuiet12
section
/- Running closed code: atomic loads and stores; sync.Once. -/
namespace Go.Proofs.YtbkckbphkfakkaaGreat
open Go.RowKit
set_option linter.unusedVariables false

theorem mv_upd {nx : Nat} {r : Nm} {H : Hp} {w w' : World} (h : RelH r H w) {k : Nat} {B B' : Bk} (hk : H.get k = some B) {b sz : Nat} (rk : r k = some (b, sz)) (hB : BR r w' B' b sz)
    (ho : ∀ c, c ≠ b → w'.heap[c]? = w.heap[c]?) (h1 : w'.os = w.os) (h2 : w'.tape = w.tape) (h3 : w'.output = w.output) (h4 : w'.heap.size = w.heap.size) : Mv nx r H w nx r (H.set k B') w' := by
  refine ⟨Nm.le_refl _, Nat.le_refl _, fun _ _ => rfl, h.upd hk rk hB ho, h1, h2, h3, by omega, fun c hc hno => ?_, fun j D c s hj rj => ?_⟩
  · refine ho c ?_
    rintro rfl
    exact hno k B sz hk rk
  · rw [Tr.get_set] at hj
    by_cases e : j = k
    · subst e; exact .inr ⟨j, B, s, hk, rj⟩
    · rw [if_neg e] at hj; exact .inr ⟨j, D, s, hj, rj⟩
theorem BR.cell {r : Nm} {w : World} {B : Bk} {b sz : Nat} (h : BR r w B b sz) {o : Nat} (ho : o < B.n) : ∃ v, w.cell? ⟨b, o, none⟩ = some v ∧ CR r (B.cell o) v := by
  obtain ⟨cs, hg, hsz, hn, hc⟩ := h.ex
  obtain ⟨v, hv, hr⟩ := hc o ho
  exact ⟨v, by rw [cell_of_row w b o cs B.e (0, 0) hg]; exact hv, hr⟩
theorem BR.frozen {r : Nm} {w : World} {B : Bk} {b sz : Nat} (h : BR r w B b sz) (o : Nat) : w.frozen? ⟨b, o, none⟩ = false := by
  obtain ⟨cs, hg, _⟩ := h.ex
  simp [World.frozen?, hg]
theorem BR.int {r : Nm} {w : World} {B : Bk} {b sz : Nat} (h : BR r w B b sz) {o : Nat} (ho : o < B.n) {k : IntKind} {x : Int} (e : B.cell o = .i k x) : w.cell? ⟨b, o, none⟩ = some (.int k x) := by
  obtain ⟨v, hv, hr⟩ := h.cell ho
  rw [e] at hr
  cases hr
  exact hv
theorem setCell_old (w : World) (b o : Nat) (v : Value) (c : Nat) (h : c ≠ b) : (w.setCell ⟨b, o, none⟩ v).heap[c]? = w.heap[c]? := by
  simp [World.setCell, Array.getElem?_modify]
  intro e; exact absurd e.symm h
theorem BR.setCell {r : Nm} {w : World} {B : Bk} {b sz : Nat} (h : BR r w B b sz) {o : Nat} (ho : o < B.n) {c : C} {v : Value} (hv : CR r c v) : BR r (w.setCell ⟨b, o, none⟩ v) (B.put o [c]) b sz := by
  obtain ⟨cs, hg, hsz, hn, hc⟩ := h.ex
  refine ⟨cs.setIfInBounds o v, ?_, by simpa using hsz, hn, fun j hj => ?_⟩
  · simp [World.setCell, Array.getElem?_modify, hg]
    rfl
  · rw [Bk.put_cell]
    by_cases e : j = o
    · subst e
      refine ⟨v, by rw [Array.getElem?_setIfInBounds_self_of_lt (by omega)], ?_⟩
      rw [if_pos ⟨Nat.le_refl _, Nat.lt_succ_self _⟩, Nat.sub_self]
      exact hv
    · obtain ⟨u, hu, hr⟩ := hc j hj
      refine ⟨u, by rw [Array.getElem?_setIfInBounds_ne (Ne.symm e)]; exact hu, ?_⟩
      rw [if_neg (by rw [List.length_singleton]; omega)]
      exact hr
theorem mv_cell {nx : Nat} {r : Nm} {H : Hp} {w : World} (h : RelH r H w) {k : Nat} {B : Bk} (hk : H.get k = some B) {b sz : Nat} (rk : r k = some (b, sz)) {o : Nat} (ho : o < B.n) {c : C} {v : Value} (hv : CR r c v) :
    Mv nx r H w nx r (H.set k (B.put o [c])) (w.setCell ⟨b, o, none⟩ v) := by
  obtain ⟨b', sz', rk', hB⟩ := h.at_ k B hk
  rw [rk] at rk'
  injection rk' with rk'
  injection rk' with e1 e2
  subst e1 e2
  exact mv_upd h hk rk (hB.setCell ho hv) (fun c hc => setCell_old w b o v c hc) rfl rfl rfl (by simp [World.setCell])
/-! ### Atomic loads and stores -/
def extL (f0 : FuncId) (k : IntKind) : ExtF := fun f xs H => if f = f0 then match xs with
  | [.w (.c (.p (some (n, o))))] => match H.get n with
    | some B => if o < B.n then match B.cell o with
      | .i j x => if j = k then some (.w (.c (.i k x)), H) else none
      | _ => none
      else none
    | none => none
  | _ => none
  else none
def extW (f0 : FuncId) (k : IntKind) : ExtF := fun f xs H => if f = f0 then match xs with
  | [.w (.c (.p (some (n, o)))), .w (.c (.i j x))] => if j = k then match H.get n with
    | some B => if o < B.n then some (.t [], H.set n (B.put o [.i k x])) else none
    | none => none
    else none
  | _ => none
  else none
def extOr (a b : ExtF) : ExtF := fun f xs H => match a f xs H with
  | some z => some z
  | none => b f xs H
theorem extOr_ok {P : Program} {a b : ExtF} (ha : ExtS P a) (hb : ExtS P b) : ExtS P (extOr a b) := by
  intro f xs H v H' h
  unfold extOr at h
  split at h
  · rename_i z hz
    injection h with h
    subst h
    exact ha f xs H v H' hz
  · exact hb f xs H v H' h
theorem extL_ok {P : Program} {f0 : FuncId} {k : IntKind} (hl : ∀ (a : Addr) (x : Int) (w : World), w.cell? a = some (.int k x) → (callFunc f0 #[.pointer (some a)]).run P w = .ok (.value (.int k x)) w) : ExtS P (extL f0 k) := by
  intro f xs H v H' h r w us hu hH
  unfold extL at h
  split at h
  case isFalse => cases h
  rename_i hf
  subst hf
  split at h
  case h_2 => cases h
  rename_i n o
  split at h
  case h_2 => cases h
  rename_i B hB
  split at h
  case isFalse => cases h
  rename_i ho
  split at h
  case h_2 => cases h
  rename_i j x hc
  split at h
  case isFalse => cases h
  rename_i hj
  subst hj
  injection h with h
  injection h with h1 h2
  subst h1 h2
  cases hu with | cons hx ht => cases ht with | nil => cases hx with | w hx => cases hx with | c hx => cases hx with | p rk =>
  obtain ⟨b, sz, rk', hBR⟩ := hH.at_ n B hB
  rw [rk] at rk'
  injection rk' with rk'
  injection rk' with e1 e2
  subst e1 e2
  exact ⟨_, w, hl _ x w (hBR.int ho hc), .w (.c (.i _ _)), fun nx => Mv.refl hH⟩
theorem extW_ok {P : Program} {f0 : FuncId} {k : IntKind} (hl : ∀ (a : Addr) (u : Value) (y : Int) (w : World), w.cell? a = some u → w.frozen? a = false → (callFunc f0 #[.pointer (some a), .int k y]).run P w = .ok (.value (.tuple #[])) (w.setCell a (.int k y))) : ExtS P (extW f0 k) := by
  intro f xs H v H' h r w us hu hH
  unfold extW at h
  split at h
  case isFalse => cases h
  rename_i hf
  subst hf
  split at h
  case h_2 => cases h
  rename_i n o j x
  split at h
  case isFalse => cases h
  rename_i hj
  subst hj
  split at h
  case h_2 => cases h
  rename_i B hB
  split at h
  case isFalse => cases h
  rename_i ho
  injection h with h
  injection h with h1 h2
  subst h1 h2
  cases hu with | cons hx ht => cases ht with | cons hy ht => cases ht with | nil => cases hx with | w hx => cases hx with | c hx => cases hx with | p rk =>
  cases hy with | w hy => cases hy with | c hy => cases hy with | i =>
  obtain ⟨b, sz, rk', hBR⟩ := hH.at_ n B hB
  rw [rk] at rk'
  injection rk' with rk'
  injection rk' with e1 e2
  subst e1 e2
  obtain ⟨u, hcu, _⟩ := hBR.cell ho
  exact ⟨_, _, hl _ u x w hcu (hBR.frozen o), .t .nil, fun nx => mv_cell hH hB rk ho (.i _ _)⟩
/-! ### sync.Once -/
def onceEndW (b off : Nat) (w2 : World) : World := (w2.drew.setCell ⟨b, off, none⟩ (.int .u32 1)).setCell ⟨b, off + 1, none⟩ (.int .i32 0)
structure OnceH (b off : Nat) (w : World) : Prop where
  c0 : w.cell? ⟨b, off, none⟩ = some (.int .u32 0)
  c1 : w.cell? ⟨b, off + 1, none⟩ = some (.int .i32 1)
  f0 : w.frozen? ⟨b, off, none⟩ = false
  f1 : w.frozen? ⟨b, off + 1, none⟩ = false
/-- what doSlow does, given what the function does -/
def OnceS (P : Program) (fSlow fn : FuncId) : Prop := ∀ (b off : Nat) (x : Value) (w : World) (R : World → Prop), w.cell? ⟨b, off, none⟩ = some (.int .u32 0) → w.cell? ⟨b, off + 1, none⟩ = some (.int .i32 0) →
  w.frozen? ⟨b, off, none⟩ = false → w.frozen? ⟨b, off + 1, none⟩ = false →
  Calls P fn #[x] (w.setCell ⟨b, off + 1, none⟩ (.int .i32 1)) (fun e w2 => e = .returned (.tuple #[]) ∧ OnceH b off w2 ∧ R w2) →
  Calls P fSlow #[.pointer (some ⟨b, off, none⟩), .func (.func fn) #[x] #[]] w fun e w' => e = .returned (.tuple #[]) ∧ ∃ w2, R w2 ∧ w' = onceEndW b off w2
def isI : C → IntKind → Int → Bool
  | .i j x, k, y => decide (j = k) && x == y
  | _, _, _ => false
theorem isI_ok {c : C} {k : IntKind} {y : Int} (h : isI c k y = true) : c = .i k y := by
  cases c <;> simp [isI] at h
  obtain ⟨rfl, rfl⟩ := h
  rfl
def spOnce (fSlow fn : FuncId) : SpF := fun call f xs H nx => if f = fSlow then match xs with
  | [.w (.c (.p (some (k, o)))), .w (.c (.f g [a] []))] => if g = fn then match H.get k with
    | some B => if Nat.blt (o + 1) B.n && isI (B.cell o) .u32 0 && isI (B.cell (o + 1)) .i32 0 then
        match call fn [.w (.c (.p (some a)))] (H.set k (B.put (o + 1) [.i .i32 1])) nx with
        | some (.t [], H1, nx1) => match H1.get k with
          | some B1 => if Nat.blt (o + 1) B1.n && isI (B1.cell o) .u32 0 && isI (B1.cell (o + 1)) .i32 1 then
              some (.t [], (H1.set k (B1.put o [.i .u32 1])).set k ((B1.put o [.i .u32 1]).put (o + 1) [.i .i32 0]), nx1)
            else none
          | none => none
        | _ => none
      else none
    | none => none
    else none
  | _ => none
  else none
theorem spOnce_ok {P : Program} {fSlow fn : FuncId} (hS : OnceS P fSlow fn) : SpS P (spOnce fSlow fn) := by
  intro call hcall f xs H nx v H' nx' h r w us hu hH hf
  unfold spOnce at h
  split at h
  case isFalse => cases h
  rename_i hff
  subst hff
  split at h
  case h_2 => cases h
  rename_i k o g a
  split at h
  case isFalse => cases h
  rename_i hg
  subst hg
  split at h
  case h_2 => cases h
  rename_i B hB
  split at h
  case isFalse => cases h
  rename_i hc
  simp only [Bool.and_eq_true] at hc
  obtain ⟨⟨hn, hc0⟩, hc1⟩ := hc
  have hn := blt_of hn
  split at h
  case h_2 => cases h
  rename_i H1 nx1 hcl
  split at h
  case h_2 => cases h
  rename_i B1 hB1
  split at h
  case isFalse => cases h
  rename_i hd
  simp only [Bool.and_eq_true] at hd
  obtain ⟨⟨hm, hd0⟩, hd1⟩ := hd
  have hm := blt_of hm
  injection h with h
  injection h with h1 h2
  injection h2 with h2 h3
  subst h1 h2 h3
  cases hu with | cons hx ht => cases ht with | cons hy ht => cases ht with | nil => cases hx with | w hx => cases hx with | c hx => cases hx with | p rk =>
  rename_i b sz
  cases hy with | w hy => cases hy with | c hy => cases hy with | f _ ha hcp =>
  cases hcp
  cases ha with | cons rka ha =>
  cases ha with | nil =>
  rename_i ka oa ba sza
  obtain ⟨b', sz', rk', hBR⟩ := hH.at_ k B hB
  rw [rk] at rk'
  injection rk' with rk'
  injection rk' with e1 e2
  subst e1 e2
  have m1 : Mv nx r H w nx r (H.set k (B.put (o + 1) [.i .i32 1])) (w.setCell ⟨b, o + 1, none⟩ (.int .i32 1)) := mv_cell hH hB rk hn (.i _ _)
  have hfind := hcall _ _ _ _ _ _ _ hcl r (w.setCell ⟨b, o + 1, none⟩ (.int .i32 1)) [ptrOf ba oa] (.cons (.w (.c (.p rka))) .nil) m1.rel hf
  have hres := hS b o (ptrOf ba oa) w (fun w2 => ∃ r1, Mv nx r (H.set k (B.put (o + 1) [.i .i32 1])) (w.setCell ⟨b, o + 1, none⟩ (.int .i32 1)) nx1 r1 H1 w2 ∧ fresh r1 nx1)
    (hBR.int (by omega) (isI_ok hc0)) (hBR.int hn (isI_ok hc1)) (hBR.frozen o) (hBR.frozen (o + 1)) (hfind.mono fun e w2 ⟨r1, u, he, hv, hmv, hfr⟩ => by
      cases hv with | t hv =>
      cases hv with | nil =>
      have rk1 := hmv.le _ _ rk
      obtain ⟨b', sz', rk', hBR1⟩ := hmv.rel.at_ k B1 hB1
      rw [rk1] at rk'
      injection rk' with rk'
      injection rk' with e1 e2
      subst e1 e2
      exact ⟨he, ⟨hBR1.int (by omega) (isI_ok hd0), hBR1.int hm (isI_ok hd1), hBR1.frozen o, hBR1.frozen (o + 1)⟩, r1, hmv, hfr⟩)
  refine hres.mono fun e w' ⟨he, w2, ⟨r1, hmv, hfr⟩, hw'⟩ => ?_
  subst hw'
  have rk1 := hmv.le _ _ rk
  have m2 : Mv nx1 r1 H1 w2.drew nx1 r1 (H1.set k (B1.put o [.i .u32 1])) (w2.drew.setCell ⟨b, o, none⟩ (.int .u32 1)) := mv_cell hmv.drew.rel hB1 rk1 (by omega) (.i _ _)
  have m3 : Mv nx1 r1 (H1.set k (B1.put o [.i .u32 1])) (w2.drew.setCell ⟨b, o, none⟩ (.int .u32 1)) nx1 r1 ((H1.set k (B1.put o [.i .u32 1])).set k ((B1.put o [.i .u32 1]).put (o + 1) [.i .i32 0])) (onceEndW b o w2) :=
    mv_cell m2.rel (by rw [Tr.get_set, if_pos rfl]) rk1 (by show o + 1 < B1.n; exact hm) (.i _ _)
  exact ⟨r1, _, he, .t .nil, ((m1.trans hmv).trans m2.from_drew).trans m3, hfr⟩
end Go.Proofs.YtbkckbphkfakkaaGreat
end
section
/- Running closed code: atomic sums, swaps, compare-and-swaps. -/
namespace Go.Proofs.YtbkckbphkfakkaaGreat
open Go.RowKit
set_option linter.unusedVariables false

def vI : C → Value
  | .i k n => .int k n
  | .b x => .bool x
  | _ => undef
def intsOf : List V → Option (List C)
  | [] => some []
  | .w (.c (.i k n)) :: l => match intsOf l with
    | some cs => some (.i k n :: cs)
    | none => none
  | _ => none
theorem intsOf_ok {r : Nm} {xs : List V} {us : List Value} (h : VsR r xs us) : ∀ {cs : List C}, intsOf xs = some cs → us = cs.map vI := by
  induction h with
  | nil => intro cs e; injection e with e; subst e; rfl
  | cons hx _ ih =>
    intro cs e
    unfold intsOf at e
    split at e
    · rename_i heq; cases heq
    · rename_i k n l heq
      injection heq with h1 h2
      subst h1 h2
      split at e
      · rename_i cs' hcs
        injection e with e
        subst e
        cases hx with | w hx => cases hx with | c hx => cases hx with | i =>
        rw [ih hcs]; rfl
      · cases e
    · cases e
/-- what an atomic operation makes of a cell's number: its answer, what it stores -/
abbrev AtF := Int → List C → Option (C × Option Int)
def extG (f0 : FuncId) (k : IntKind) (g : AtF) : ExtF := fun f xs H => if f = f0 then match xs with
  | .w (.c (.p (some (n, o)))) :: rest => match intsOf rest, H.get n with
    | some cs, some B => if o < B.n then match B.cell o with
      | .i j x => if j = k then match g x cs with
        | some (c, none) => some (.w (.c c), H)
        | some (c, some y) => some (.w (.c c), H.set n (B.put o [.i k y]))
        | none => none
        else none
      | _ => none
      else none
    | _, _ => none
  | _ => none
  else none
def AtS (P : Program) (f0 : FuncId) (k : IntKind) (g : AtF) : Prop := ∀ (a : Addr) (x : Int) (cs : List C) (c : C) (ny : Option Int) (w : World), g x cs = some (c, ny) → w.cell? a = some (.int k x) → w.frozen? a = false →
  (∀ r, CR r c (vI c)) ∧ (callFunc f0 (.pointer (some a) :: cs.map vI).toArray).run P w = .ok (.value (vI c)) (match ny with | none => w | some y => w.setCell a (.int k y))
theorem extG_ok {P : Program} {f0 : FuncId} {k : IntKind} {g : AtF} (hg : AtS P f0 k g) : ExtS P (extG f0 k g) := by
  intro f xs H v H' h r w us hu hH
  unfold extG at h
  split at h
  case isFalse => cases h
  rename_i hf
  subst hf
  split at h
  case h_2 => cases h
  rename_i n o rest
  split at h
  case h_2 => cases h
  rename_i cs B hcs hB
  split at h
  case isFalse => cases h
  rename_i ho
  split at h
  case h_2 => cases h
  rename_i j x hc
  split at h
  case isFalse => cases h
  rename_i hj
  subst hj
  cases hu with | cons hx ht => cases hx with | w hx => cases hx with | c hx => cases hx with | p rk =>
  have hus := intsOf_ok ht hcs
  subst hus
  obtain ⟨b, sz, rk', hBR⟩ := hH.at_ n B hB
  rw [rk] at rk'
  injection rk' with rk'
  injection rk' with e1 e2
  subst e1 e2
  split at h
  · rename_i c hgc
    injection h with h
    injection h with h1 h2
    subst h1 h2
    obtain ⟨k1, k2⟩ := hg _ x cs c none w hgc (hBR.int ho hc) (hBR.frozen o)
    exact ⟨_, w, k2, .w (.c (k1 r)), fun nx => Mv.refl hH⟩
  · rename_i c y hgc
    injection h with h
    injection h with h1 h2
    subst h1 h2
    obtain ⟨k1, k2⟩ := hg _ x cs c (some y) w hgc (hBR.int ho hc) (hBR.frozen o)
    exact ⟨_, _, k2, .w (.c (k1 r)), fun nx => mv_cell hH hB rk ho (.i _ _)⟩
  · cases h
def gAdd (k : IntKind) : AtF := fun x cs => match cs with
  | [.i j y] => if j = k then some (.i k (k.wrap (x + y)), some (k.wrap (x + y))) else none
  | _ => none
def gSwap (k : IntKind) : AtF := fun x cs => match cs with
  | [.i j y] => if j = k then some (.i k x, some y) else none
  | _ => none
def gCas (k : IntKind) : AtF := fun x cs => match cs with
  | [.i j o, .i m y] => if j = k ∧ m = k then (if x = o then some (.b true, some y) else some (.b false, none)) else none
  | _ => none
section
variable {P : Program} {f : FuncId} {fn : Func} (hf : P.funcs[f]? = some fn) (hname : (fn.name == "runtime.NumGoroutine") = false) (hb : fn.body.isNone = true) (hn : Extern.findNext fn = none) (k : IntKind)
include hf hname hb hn
theorem gAdd_ok (he : Extern.find fn = some (Extern.Atomic.update (Op.intArith .add) k true)) : AtS P f k (gAdd k) := by
  intro a x cs c ny w h hc hz
  unfold gAdd at h
  split at h
  case h_2 => cases h
  split at h
  case isFalse => cases h
  rename_i hj
  subst hj
  injection h with h
  injection h with h1 h2
  subst h1 h2
  exact ⟨fun r => .i _ _, run_call_add hf hname hb hn _ he hc hz (by simp [Op.intArith])⟩
theorem gSwap_ok (he : Extern.find fn = some (Extern.Atomic.swapT (.int k))) : AtS P f k (gSwap k) := by
  intro a x cs c ny w h hc hz
  unfold gSwap at h
  split at h
  case h_2 => cases h
  split at h
  case isFalse => cases h
  rename_i j y hj
  subst hj
  injection h with h
  injection h with h1 h2
  subst h1 h2
  refine ⟨fun r => .i _ _, ?_⟩
  show (callFunc f #[.pointer (some a), .int j y]).run P w = .ok (.value (.int j x)) (w.setCell a (.int j y))
  rw [run_callFunc_extern hf hname hb hn he]
  change (Sem.run P (do
    let a' ← asAddr (.pointer (some a))
    let old ← Extern.Atomic.read (.int j) a'
    store a' (.int j y) .atomic
    pure old) w).andThen _ = _
  simp [Extern.Atomic.read, asAddr, hc, hz, run_store P w a (.int j y) .atomic rfl, Result.andThen]
theorem gCas_ok (he : Extern.find fn = some (Extern.Atomic.casT (.int k))) : AtS P f k (gCas k) := by
  intro a x cs c ny w h hc hz
  unfold gCas at h
  split at h
  case h_2 => cases h
  split at h
  case isFalse => cases h
  rename_i j o m y hj
  obtain ⟨rfl, rfl⟩ := hj
  split at h
  · rename_i hx
    subst hx
    injection h with h
    injection h with h1 h2
    subst h1 h2
    exact ⟨fun r => .b _, run_call_cas_hit hf hname hb hn _ he hc hz⟩
  · rename_i hx
    injection h with h
    injection h with h1 h2
    subst h1 h2
    exact ⟨fun r => .b _, run_call_cas_miss hf hname hb hn _ he hc hz hx⟩
end
end Go.Proofs.YtbkckbphkfakkaaGreat
end
section
/- sync.Once for the runner, out of the walk of doSlow. -/
namespace Go.Proofs.YtbkckbphkfakkaaGreat
open Go.RowKit
theorem once_find : OnceS Tryz.prog 126 96 := fun b off x w R h0 h1 f0 f1 hc =>
  slow_any b off _ x w R h0 h1 f0 f1 rfl (hc.mono fun _ _ ⟨q1, q2, q3⟩ => ⟨q1, ⟨q2.c0, q2.c1, q2.f0, q2.f1⟩, q3⟩)
end Go.Proofs.YtbkckbphkfakkaaGreat
end
section
/- Running closed code: the seat's own functions without a body, its Once; awake() of kissgatelaw36. -/
namespace Go.Proofs.YtbkckbphkfakkaaGreat
open Go.RowKit

def extA : ExtF := extOr (extL 141 .u32) (extOr (extL 101 .i64) (extOr (extW 129 .i64) (extOr (extG 136 .i64 (gAdd .i64)) (extOr (extG 230 .i64 (gSwap .i64)) (extG 191 .i64 (gCas .i64))))))
def spA : SpF := spOnce 126 96
theorem extA_ok : ExtS Tryz.prog extA := extOr_ok (extL_ok fun a x w hc => run_call_load Tryz.func141 (by kernel_rfl) (by kernel_rfl) (by kernel_rfl) .u32 (by kernel_rfl) hc) (extOr_ok (extL_ok fun a x w hc => run_call_load Tryz.func101 (by kernel_rfl) (by kernel_rfl) (by kernel_rfl) .i64 (by kernel_rfl) hc) (extOr_ok (extW_ok fun a u y w hc hz => run_call_store Tryz.func129 (by kernel_rfl) (by kernel_rfl) (by kernel_rfl) (by kernel_rfl) hc hz) (extOr_ok (extG_ok (gAdd_ok Tryz.func136 (by kernel_rfl) (by kernel_rfl) (by kernel_rfl) .i64 (by kernel_rfl))) (extOr_ok (extG_ok (gSwap_ok Tryz.func230 (by kernel_rfl) (by kernel_rfl) (by kernel_rfl) .i64 (by kernel_rfl))) (extG_ok (gCas_ok Tryz.func191 (by kernel_rfl) (by kernel_rfl) (by kernel_rfl) .i64 (by kernel_rfl)))))))
theorem spA_ok : SpS Tryz.prog spA := spOnce_ok once_find
set_option maxRecDepth 1000000 in
theorem awakes36 : awakes Tryz.prog extA spA (drawR Tryz.prog extA) 3000 6 = true := by decide +kernel
theorem awake36 (w : World) : Calls Tryz.prog 6 #[] w fun e w' => e = .returned (.bool true) ∧ Below w.heap.size w w' := awakes_ok extA_ok spA_ok (drawR_ok _ _ extA_ok) awakes36 w
end Go.Proofs.YtbkckbphkfakkaaGreat
end
section
/- Layer 36 (neutral): the walk of NeutralQuiet. (written by wip/gen_qu.py) -/
namespace Go.Proofs.YtbkckbphkfakkaaGreat
open Go.RowKit

set_option maxRecDepth 100000 in
theorem longNQ (w : World) (vP vT : Value) (a0 a1 a2 : Int) (A : Option Addr) (m c : Nat) (h1 : 150 < m) (h2 : m ≤ 9223372036854775807) :
    Calls Tryz.prog 3 #[.agg #[vP, vT], .agg #[.int .u8 a0, .int .u8 a1, .int .u8 a2], .slice A m c] w fun e w' => e = .returned (.bool true) ∧ Below w.heap.size w w' := by
  have HB := Lib.hid (((Below.refl w.heap.size w).alloc (Nat.le_refl _) (.cells #[vP, vT] 24)).alloc (by simp) (.cells #[.int .u8 a0, .int .u8 a1, .int .u8 a2] 25))
  go_enter Tryz.func3, Tryz.ntmps3
  go_wp2_with fail
  refine (awake36 _).mono ?_
  rintro en w1 ⟨rfl, hb⟩
  have H1 := Lib.hid (HB.out.trans (hb.mono HB.out.size))
  clear hb
  go_wp2
  go_ret
  exact ⟨rfl, H1.out⟩
set_option maxRecDepth 100000 in
set_option maxHeartbeats 1000000 in
theorem noNQ (w : World) (vP vT : Value) (a0 a1 a2 : Int) (hs : SmNo w vP vT 8) (A : Option Addr) (m c : Nat) (hm : m ≤ 150) :
    Calls Tryz.prog 3 #[.agg #[vP, vT], .agg #[.int .u8 a0, .int .u8 a1, .int .u8 a2], .slice A m c] w fun e w' => e = .returned (.bool true) ∧ Below w.heap.size w w' := by
  obtain ⟨w0, hw0⟩ : ∃ W, W = (w.alloc (.cells #[vP, vT] 24)).alloc (.cells #[.int .u8 a0, .int .u8 a1, .int .u8 a2] 25) := ⟨_, rfl⟩
  have HB0 := Lib.hid (show Below w.heap.size w w0 from by rw [hw0]; exact ((Below.refl w.heap.size w).alloc (Nat.le_refl _) _).alloc (by simp) _)
  have HX := Lib.hid (show Blk w0 w.heap.size 24 #[vP, vT] from by rw [hw0]; exact (Blk.new w 24 #[vP, vT]).alloc _)
  have HX2 := Lib.hid (show Blk w0 (w.heap.size + 1) 25 #[.int .u8 a0, .int .u8 a1, .int .u8 a2] from by
    rw [hw0]
    have := Blk.new (w.alloc (.cells #[vP, vT] 24)) 25 #[.int .u8 a0, .int .u8 a1, .int .u8 a2]
    simpa using this)
  have HM := Lib.hid (madeNoNQ w0 vP vT a0 a1 a2 (hs.below HB0.out))
  have HS := Lib.hid hs
  clear hs
  go_enter Tryz.func3, Tryz.ntmps3
  go_upto_region 1 with fail
  rw [← hw0]
  clear hw0
  have f0 : w0.cell? ⟨w.heap.size, 0, none⟩ = some vP := HX.out.cell 0
  have f1 : w0.cell? ⟨w.heap.size, 1, none⟩ = some vT := HX.out.cell 1
  have n0 : w0.cell? ⟨w.heap.size + 1, 0, none⟩ = some (.int .u8 a0) := HX2.out.cell 0
  have n1 : w0.cell? ⟨w.heap.size + 1, 1, none⟩ = some (.int .u8 a1) := HX2.out.cell 1
  have n2 : w0.cell? ⟨w.heap.size + 1, 2, none⟩ = some (.int .u8 a2) := HX2.out.cell 2
  go_wp2_with fail
  refine HM.out.mono ?_
  rintro en w1 ⟨rfl, b1⟩
  have hX1 := HX.out.below b1 HX.out.lt
  have HB1 := Lib.hid (HB0.out.trans (b1.mono HB0.out.size))
  clear b1 f0 f1 n0 n1 n2
  have f0 : w1.cell? ⟨w.heap.size, 0, none⟩ = some vP := hX1.cell 0
  have f1 : w1.cell? ⟨w.heap.size, 1, none⟩ = some vT := hX1.cell 1
  clear hX1
  go_wp2_with fail
  refine (HS.out _ HB1.out).mono ?_
  rintro en w2 ⟨rfl, b2⟩
  have HB2 := Lib.hid (HB1.out.trans (b2.mono HB1.out.size))
  clear b2
  go_wp2_with fail
  refine (awake36 _).mono ?_
  rintro en w3 ⟨rfl, b3⟩
  have HB3 := Lib.hid (HB2.out.trans (b3.mono HB2.out.size))
  clear b3
  go_wp2
  go_ret
  exact ⟨rfl, HB3.out⟩
set_option maxRecDepth 100000 in
set_option maxHeartbeats 16000000 in
theorem quietNQ (w : World) (vP : Value) (AT : Option Addr) (cT : Nat) (P T : List Int) (hP : RdL w vP 1 encI P) (hT : RdL w (.slice AT T.length cT) 1 encI T) (a0 a1 a2 : Nat) (h0 : a0 < 256) (h1 : a1 < 256) (h2 : a2 < 256) (hs : smallB P T 8 = true) (v : Value) (ls : List (Int × Int)) (h : RdL w v 2 encP ls) (hl150 : ls.length ≤ 150) :
    Calls Tryz.prog 3 #[.agg #[vP, .slice AT T.length cT], .agg #[.int .u8 a0, .int .u8 a1, .int .u8 a2], v] w fun e w' => e = .returned (.bool true) ∧ Below w.heap.size w w' := by
  obtain ⟨A, cap, rfl, l1, l2, hr⟩ := h
  have HR := Lib.hid hr
  have hT8 : T.length ≤ 8 := by have := (of_decide_eq_true hs).2; omega
  obtain ⟨w0, hw0⟩ : ∃ W, W = (w.alloc (.cells #[vP, .slice AT T.length cT] 24)).alloc (.cells #[.int .u8 a0, .int .u8 a1, .int .u8 a2] 25) := ⟨_, rfl⟩
  have HB0 := Lib.hid (show Below w.heap.size w w0 from by rw [hw0]; exact ((Below.refl w.heap.size w).alloc (Nat.le_refl _) _).alloc (by simp) _)
  have HX := Lib.hid (show Blk w0 w.heap.size 24 #[vP, .slice AT T.length cT] from by rw [hw0]; exact (Blk.new w 24 #[vP, .slice AT T.length cT]).alloc _)
  have HX2 := Lib.hid (show Blk w0 (w.heap.size + 1) 25 #[.int .u8 a0, .int .u8 a1, .int .u8 a2] from by
    rw [hw0]
    have := Blk.new (w.alloc (.cells #[vP, .slice AT T.length cT] 24)) 25 #[.int .u8 a0, .int .u8 a1, .int .u8 a2]
    simpa using this)
  have HM := Lib.hid (madeYesNQ w0 vP _ P T (hP.below HB0.out (Nat.le_refl _)) (hT.below HB0.out (Nat.le_refl _)) a0 a1 a2 h0 h1 h2 hs)
  clear hr hP hT hs
  go_enter Tryz.func3, Tryz.ntmps3
  go_upto_region 1 with fail
  rw [← hw0]
  clear hw0
  have f0 : w0.cell? ⟨w.heap.size, 0, none⟩ = some vP := HX.out.cell 0
  have f1 : w0.cell? ⟨w.heap.size, 1, none⟩ = some (.slice AT T.length cT) := HX.out.cell 1
  have n0 : w0.cell? ⟨w.heap.size + 1, 0, none⟩ = some (.int .u8 a0) := HX2.out.cell 0
  have n1 : w0.cell? ⟨w.heap.size + 1, 1, none⟩ = some (.int .u8 a1) := HX2.out.cell 1
  have n2 : w0.cell? ⟨w.heap.size + 1, 2, none⟩ = some (.int .u8 a2) := HX2.out.cell 2
  go_wp2_with fail
  refine HM.out.mono ?_
  rintro en w1 ⟨B, x, s0, rfl, hS⟩
  have H0 := Lib.hid hS
  have hw0s : w.heap.size ≤ w0.heap.size := HB0.out.size
  have hx0 : w.heap.size < w0.heap.size := HX.out.lt
  have HC0 : Hid (∀ W, Below w0.heap.size w0 W → W.cell? ⟨w.heap.size, 1, none⟩ = some (.slice AT T.length cT)) := Lib.hid fun W hW => (HX.out.below hW hx0).cell 1
  clear hS HM f0 f1 n0 n1 n2
  go_wp2
  go_loopw [10] (fun i wr => ∃ (k : Nat) (s : Ar) (S : List Sp), i = .int .i64 k ∧ k ≤ ls.length ∧ QNSt w0 wr B x P T s S (10000 + k)) (fun i _ => ls.length - (intOf i).toNat)
  case atStart => exact ⟨0, s0, _, rfl, by omega, H0.out⟩
  case round =>
    clear H0
    obtain ⟨k, s, S, rfl, hk, hW⟩ := hrel
    obtain ⟨wo, rfl⟩ : ∃ wo : World, wo = wr := ⟨_, rfl⟩
    have HW := Lib.hid hW
    clear hW
    by_cases hlt : k < ls.length
    · obtain ⟨bl, off, rfl, hbl, hc⟩ := HR.out (by omega)
      obtain ⟨⟨kd, ii⟩, hx⟩ := getElem?_lt hlt
      have hWb := HB0.out.trans (HW.out.bel.mono hw0s)
      have x0 : wo.cell? ⟨bl, off + k * 2, none⟩ = some (.int .i64 kd) := (hWb.cell (p := ⟨bl, off + k * 2 + 0, none⟩) hbl).trans (hc k _ hx 0 _ rfl)
      have x1 : wo.cell? ⟨bl, off + k * 2 + 1, none⟩ = some (.int .i64 ii) := (hWb.cell (p := ⟨bl, off + k * 2 + 1, none⟩) hbl).trans (hc k _ hx 1 _ rfl)
      obtain ⟨wa, hwa⟩ : ∃ W, W = wo.alloc (.cells #[.int .i64 kd, .int .i64 ii] 34) := ⟨_, rfl⟩
      obtain ⟨yb, hyb⟩ : ∃ y, y = wo.heap.size := ⟨_, rfl⟩
      have HBa := Lib.hid (show Below wo.heap.size wo wa ∧ Blk wa yb 34 #[.int .i64 kd, .int .i64 ii] ∧ w0.heap.size ≤ yb ∧ yb = wo.heap.size from ⟨by rw [hwa]; exact (Below.refl _ _).alloc (Nat.le_refl _) _, by rw [hwa, hyb]; exact Blk.new _ _ _, by rw [hyb]; exact HW.out.bel.size, hyb⟩)
      obtain ⟨kd2, hkd2⟩ : ∃ z : Int, z = if kd = 1 then 3 else kd := ⟨_, rfl⟩
      have HKD := Lib.hid (show kd2 ≠ 1 from by rw [hkd2]; split <;> omega)
      clear hc hx hWb
      go_upto_region 10 with fail
      rw [← hwa, ← hyb]
      clear hwa hyb x0 x1
      have y0 := HBa.out.2.1.cell 0
      have y1 := HBa.out.2.1.cell 1
      have z0 := HBa.out.2.1.free 0
      go_upto_if 51 with fail
      go_cut [] (fun wx => Blk wx yb 34 #[.int .i64 kd2, .int .i64 ii] ∧ Turns [yb] wa wx)
      case first =>
        by_cases hk1 : kd = 1
        · subst hk1
          have e2 : kd2 = 3 := by rw [hkd2]; rfl
          subst e2
          clear hkd2
          go_wp2
          go_meet
          case rel => exact ⟨HBa.out.2.1.set_ 0 _, (Turns.refl _ _).setCell (.inl (by simp)) _⟩
        · have u1 : (kd == 1) = false := by simpa using hk1
          have e2 : kd2 = kd := by rw [hkd2, if_neg hk1]
          subst e2
          clear hkd2
          go_wp2
          go_meet
          case rel => exact ⟨HBa.out.2.1, Turns.refl _ _⟩
      case rest =>
        obtain ⟨hby, hty⟩ := hcut
        obtain ⟨wx, rfl⟩ : ∃ wx : World, wx = wc := ⟨_, rfl⟩
        have HY := Lib.hid (show Blk wx yb 34 #[.int .i64 kd2, .int .i64 ii] ∧ QNSt w0 wx B x P T s S (10000 + k) from ⟨hby, HW.out.below ⟨hty.os.trans HBa.out.1.os, hty.tape.trans HBa.out.1.tape, hty.output.trans HBa.out.1.output, Nat.le_trans HBa.out.1.size hty.size, fun i hi => (hty.block i (Nat.lt_of_lt_of_le hi HBa.out.1.size) (by have := HBa.out.2.2.2; simp; omega)).trans (HBa.out.1.block i hi)⟩⟩)
        have hyl := hby.lt
        clear hby hty y0 y1 z0
        have y0 : wx.cell? ⟨yb, 0, none⟩ = some (.int .i64 kd2) := HY.out.1.cell 0
        have y1 : wx.cell? ⟨yb, 1, none⟩ = some (.int .i64 ii) := HY.out.1.cell 1
        have HD := Lib.hid (doNQ HY.out.2.is kd2 ii HKD.out (by have := HY.out.2.op; omega))
        clear hkd2
        go_wp2_with fail
        refine (aops_any HY.out.2.is.ar).mono ?_
        rintro en w2 ⟨rfl, rfl⟩
        go_wp2_with fail
        refine HD.out.mono ?_
        rintro en w3 ⟨rr, s2, rfl, k3, o3, wr3, t3⟩
        have H3 := Lib.hid (HY.out.2.next (M' := 10000 + (k + 1)) t3 k3 (by have := HY.out.2.op; omega))
        have HWr := Lib.hid wr3
        have yl : yb ∉ [x.a, x.g, x.q] := by
          have q1 := HW.out.is.ar.blk.lt
          have q2 := HW.out.is.ar.wds.lt
          have q3 := HW.out.is.sp.lt
          have q4 := HBa.out.2.2.2
          simp; omega
        have g1 : w3.cell? ⟨yb, 1, none⟩ = some (.int .i64 ii) := (t3.blk HY.out.1 yl).cell 1
        clear k3 t3 wr3 y0 y1 HD yl
        go_wp2_with fail
        refine (ownNQ H3.out.is ii).mono ?_
        rintro en w4 ⟨rfl, b4⟩
        have H4 := Lib.hid (H3.out.below b4)
        obtain ⟨ow, how⟩ : ∃ o : Int, o = ownQ P T ii := ⟨_, rfl⟩
        rw [← how] at HWr ⊢
        have how2 : 0 ≤ ow ∧ ow ≤ 70 := by
          rw [how]
          unfold ownQ
          split
          · rename_i hi9
            obtain ⟨nd, hd, _, hq9⟩ := nodeNQ H4.out.is (n := ii.toNat) (by omega)
            have := H4.out.is.n32.2
            rw [hq9]
            omega
          · omega
        have hf1 : ∀ (u0 u1 : Int) (u2 : Bool) (W : World), (Instr.field 39 (.agg #[.int .i64 u0, .int .i64 u1, .bool u2]) 1).run Tryz.prog W = .ok (.int .i64 u1) W := fun _ _ _ _ => by kernel_rfl
        have hf2 : ∀ (u0 u1 : Int) (u2 : Bool) (W : World), (Instr.field 39 (.agg #[.int .i64 u0, .int .i64 u1, .bool u2]) 2).run Tryz.prog W = .ok (.bool u2) W := fun _ _ _ _ => by kernel_rfl
        have xw : IntKind.i64.wrap (ow + 1) = ow + 1 := IntWalk.i64_in _ (by omega)
        have HHo := Lib.hid how
        clear b4 g1 how
        go_wp2_with fail
        refine (aops_any H4.out.is.ar).mono ?_
        rintro en w5 ⟨rfl, rfl⟩
        by_cases hgt : s.ops < s2.ops
        · have g5 : decide ((s.ops : Int) < (s2.ops : Int)) = true := decide_eq_true (by omega)
          have g6 : (s.ops : Int) < (s2.ops : Int) := by omega
          go_wp2_with fail
          refine (lastA H4.out.is.ar).mono ?_
          rintro en w6 ⟨rfl, b6⟩
          have H6 := Lib.hid (H4.out.below b6)
          clear b6
          cases hwr : s2.wr
          · go_wp2
            go_roundw
            case rel => exact ⟨k + 1, s2, _, by go_num, by omega, H6.out⟩
            case measure => simp [intOf]; omega
          · rcases HWr.out hgt hwr with hat | hat
            · have e1 : (s2.at_ != ow) = false := by simp [hat]
              go_wp2_with fail
              refine (lastA H6.out.is.ar).mono ?_
              rintro en w7 ⟨rfl, b7⟩
              have H7 := Lib.hid (H6.out.below b7)
              clear b7
              go_wp2
              go_roundw
              case rel => exact ⟨k + 1, s2, _, by go_num, by omega, H7.out⟩
              case measure => simp [intOf]; omega
            · have e1 : (s2.at_ != ow) = true := by simp [hat]; omega
              have e2 : (s2.at_ != ow + 1) = false := by simp [hat]
              go_wp2_with fail
              refine (lastA H6.out.is.ar).mono ?_
              rintro en w7 ⟨rfl, b7⟩
              have H7 := Lib.hid (H6.out.below b7)
              clear b7
              go_wp2_with fail
              refine (lastA H7.out.is.ar).mono ?_
              rintro en w8 ⟨rfl, b8⟩
              have H8 := Lib.hid (H7.out.below b8)
              clear b8
              go_wp2
              go_roundw
              case rel => exact ⟨k + 1, s2, _, by go_num, by omega, H8.out⟩
              case measure => simp [intOf]; omega
        · have g5 : decide ((s.ops : Int) < (s2.ops : Int)) = false := decide_eq_false (by omega)
          have g6 : ¬ (s.ops : Int) < (s2.ops : Int) := by omega
          go_wp2
          go_roundw
          case rel => exact ⟨k + 1, s2, _, by go_num, by omega, H4.out⟩
          case measure => simp [intOf]; omega
    · have f1 := HC0.out _ HW.out.bel
      have HW1 := Lib.hid (show QNSt w0 wo B x P T s S 20000 from ⟨HW.out.is, HW.out.bel, HW.out.hl, by have := HW.out.op; omega⟩)
      go_wp2
      clear f1
      go_loopw [15] (fun jj wr => ∃ (j : Nat) (s : Ar) (S : List Sp), jj = .int .i64 j ∧ j ≤ T.length ∧ QNSt w0 wr B x P T s S (20000 + 20 * j) ∧ ∀ i, i < j → HoldQ (sv S i)) (fun jj _ => T.length - (intOf jj).toNat)
      case atStart => exact ⟨0, s, S, rfl, by omega, HW1.out, fun i hi => absurd hi (Nat.not_lt_zero _)⟩
      case round =>
        obtain ⟨j, s1, S1, rfl, hj, hC, hho⟩ := hrel
        obtain ⟨wi, rfl⟩ : ∃ wi : World, wi = wr := ⟨_, rfl⟩
        have HCj := Lib.hid (And.intro hC hho)
        clear hC hho
        by_cases hjl : j < T.length
        · obtain ⟨p0, hp0⟩ : ∃ p, p = sv S1 j := ⟨_, rfl⟩
          have HRD := Lib.hid (show RdOk false p0 from by rw [hp0]; exact HCj.out.1.is.ok j hjl)
          have HP0 := Lib.hid hp0
          clear hp0
          go_wp2_with fail
          refine (askNQ HCj.out.1.is (j : Int)).mono ?_
          rintro en wk ⟨rr, rfl, k5, t5⟩
          have HK := Lib.hid (show QNSt w0 wk B x P T _ (askS S1 j) (20000 + 20 * j + 0 + 0) ∧ sv (askS S1 j) j = iterQ false (askQ p0) 0 ∧ ∀ i, i < j → HoldQ (sv (askS S1 j) i) from by
            have hl : j < S1.length := by rw [HCj.out.1.is.sl]; exact hjl
            refine ⟨HCj.out.1.next t5 k5 (by have := HCj.out.1.op; omega), ?_, fun i hi => ?_⟩
            · rw [sv_askS hl, if_pos rfl]; rw [← HP0.out]; rfl
            · rw [sv_askS hl, if_neg (by omega)]; exact HCj.out.2 i hi)
          clear k5 t5
          go_wp2
          go_loopw [16] (fun cc wr => ∃ (c : Nat) (s : Ar) (S' : List Sp), cc = .int .i64 c ∧ c ≤ 6 ∧ QNSt w0 wr B x P T s S' (20000 + 20 * j + 0 + c) ∧ sv S' j = iterQ false (askQ p0) c ∧ ∀ i, i < j → HoldQ (sv S' i)) (fun cc _ => 6 - (intOf cc).toNat)
          case atStart => exact ⟨0, _, _, rfl, by omega, HK.out.1, HK.out.2.1, HK.out.2.2⟩
          case round =>
            obtain ⟨c, s3, S3, rfl, hc6, hC, hsv, hho⟩ := hrel
            obtain ⟨wz, rfl⟩ : ∃ wz : World, wz = wr := ⟨_, rfl⟩
            have HCz := Lib.hid (And.intro hC (And.intro hsv hho))
            clear hC hsv hho
            by_cases hcl : c < 6
            · go_wp2_with fail
              refine (stepNQ HCz.out.1.is (j : Int) (by have := HCz.out.1.op; omega)).mono ?_
              rintro en wy ⟨rr, s4, rfl, k4, o4, _, t4⟩
              have HZ := Lib.hid (show QNSt w0 wy B x P T s4 (stS false S3 j) (20000 + 20 * j + 0 + (c + 1)) ∧ sv (stS false S3 j) j = iterQ false (askQ p0) (c + 1) ∧ ∀ i, i < j → HoldQ (sv (stS false S3 j) i) from by
                have hl : j < S3.length := by rw [HCz.out.1.is.sl]; exact hjl
                refine ⟨HCz.out.1.next t4 k4 (by have := HCz.out.1.op; omega), ?_, fun i hi => ?_⟩
                · rw [sv_stS hl, if_pos rfl, HCz.out.2.1]; rfl
                · rw [sv_stS hl, if_neg (by omega)]; exact HCz.out.2.2 i hi)
              clear k4 o4 t4
              go_wp2
              go_roundw
              case rel => exact ⟨c + 1, _, _, by go_num, by omega, HZ.out.1, HZ.out.2.1, HZ.out.2.2⟩
              case measure => simp [intOf]; omega
            · obtain rfl : c = 6 := by omega
              have HZ6 := Lib.hid (And.intro HCz.out.1 (And.intro HCz.out.2.1 HCz.out.2.2))
              have hg : getS S3 (j : Int) = sv S3 j := getQ_nat (by rw [HCz.out.1.is.sl]; exact hjl)
              have HSp := Lib.hid (spotNQ HCz.out.1.is (j : Int))
              rw [hg, HCz.out.2.1] at HSp
              have H6a := Lib.hid (six_ask HRD.out)
              obtain ⟨p6, hp6⟩ : ∃ p, p = iterQ false (askQ p0) 6 := ⟨_, rfl⟩
              rw [← hp6] at HSp H6a HZ6
              have hfp := field_pc
              clear hg hp6 HCz
              go_wp2_with fail
              refine HSp.out.mono ?_
              rintro en wq ⟨rfl, bq⟩
              unfold spotV
              have HQ6 := Lib.hid (HZ6.out.1.below bq)
              clear bq HSp
              by_cases hr0 : p6.pc = 0
              · have er : (p6.pc == 0) = true := by simpa using hr0
                have H6r := Lib.hid (six_rest (w := false) hr0)
                clear hr0
                go_wp2_with fail
                refine (askNQ HQ6.out.is (j : Int)).mono ?_
                rintro en wk ⟨rr, rfl, k5, t5⟩
                have HK2 := Lib.hid (show QNSt w0 wk B x P T _ (askS S3 j) (20000 + 20 * j + 7 + 0) ∧ sv (askS S3 j) j = iterQ false (askQ p6) 0 ∧ ∀ i, i < j → HoldQ (sv (askS S3 j) i) from by
                  have hl : j < S3.length := by rw [HQ6.out.is.sl]; exact hjl
                  refine ⟨HQ6.out.next t5 k5 (by have := HQ6.out.op; omega), ?_, fun i hi => ?_⟩
                  · rw [sv_askS hl, if_pos rfl]; rw [HZ6.out.2.1]; rfl
                  · rw [sv_askS hl, if_neg (by omega)]; exact HZ6.out.2.2 i hi)
                clear k5 t5
                go_wp2
                go_loopw [17] (fun cc wr => ∃ (c : Nat) (s : Ar) (S' : List Sp), cc = .int .i64 c ∧ c ≤ 6 ∧ QNSt w0 wr B x P T s S' (20000 + 20 * j + 7 + c) ∧ sv S' j = iterQ false (askQ p6) c ∧ ∀ i, i < j → HoldQ (sv S' i)) (fun cc _ => 6 - (intOf cc).toNat)
                case atStart => exact ⟨0, _, _, rfl, by omega, HK2.out.1, HK2.out.2.1, HK2.out.2.2⟩
                case round =>
                  obtain ⟨c, s5, S5, rfl, hc6, hC, hsv, hho⟩ := hrel
                  obtain ⟨wz, rfl⟩ : ∃ wz : World, wz = wr := ⟨_, rfl⟩
                  have HCz := Lib.hid (And.intro hC (And.intro hsv hho))
                  clear hC hsv hho
                  by_cases hcl : c < 6
                  · go_wp2_with fail
                    refine (stepNQ HCz.out.1.is (j : Int) (by have := HCz.out.1.op; omega)).mono ?_
                    rintro en wy ⟨rr, s4, rfl, k4, o4, _, t4⟩
                    have HZ := Lib.hid (show QNSt w0 wy B x P T s4 (stS false S5 j) (20000 + 20 * j + 7 + (c + 1)) ∧ sv (stS false S5 j) j = iterQ false (askQ p6) (c + 1) ∧ ∀ i, i < j → HoldQ (sv (stS false S5 j) i) from by
                      have hl : j < S5.length := by rw [HCz.out.1.is.sl]; exact hjl
                      refine ⟨HCz.out.1.next t4 k4 (by have := HCz.out.1.op; omega), ?_, fun i hi => ?_⟩
                      · rw [sv_stS hl, if_pos rfl, HCz.out.2.1]; rfl
                      · rw [sv_stS hl, if_neg (by omega)]; exact HCz.out.2.2 i hi)
                    clear k4 o4 t4
                    go_wp2
                    go_roundw
                    case rel => exact ⟨c + 1, _, _, by go_num, by omega, HZ.out.1, HZ.out.2.1, HZ.out.2.2⟩
                    case measure => simp [intOf]; omega
                  · obtain rfl : c = 6 := by omega
                    have HF := Lib.hid (show QNSt w0 wz B x P T s5 S5 (20000 + 20 * (j + 1)) ∧ ∀ i, i < j + 1 → HoldQ (sv S5 i) from ⟨⟨HCz.out.1.is, HCz.out.1.bel, HCz.out.1.hl, by have := HCz.out.1.op; omega⟩, fun i hi => by
                      by_cases e : i = j
                      · subst e; rw [HCz.out.2.1]; exact H6r.out
                      · exact HCz.out.2.2 i (by omega)⟩)
                    go_wp2
                    go_roundw
                    case rel => exact ⟨j + 1, _, _, by go_num, by omega, HF.out.1, HF.out.2⟩
                    case measure => simp [intOf]; omega
              · have er : (p6.pc == 0) = false := by simpa using hr0
                have hho6 : HoldQ p6 := by
                  rcases H6a.out with h9 | h9
                  · exact h9
                  · exact absurd h9 hr0
                have HF := Lib.hid (show QNSt w0 wq B x P T s3 S3 (20000 + 20 * (j + 1)) ∧ ∀ i, i < j + 1 → HoldQ (sv S3 i) from ⟨⟨HQ6.out.is, HQ6.out.bel, HQ6.out.hl, by have := HQ6.out.op; omega⟩, fun i hi => by
                  by_cases e : i = j
                  · subst e; rw [HZ6.out.2.1]; exact hho6
                  · exact HZ6.out.2.2 i (by omega)⟩)
                clear hho6 hr0
                go_wp2
                go_roundw
                case rel => exact ⟨j + 1, _, _, by go_num, by omega, HF.out.1, HF.out.2⟩
                case measure => simp [intOf]; omega
        · obtain rfl : j = T.length := by omega
          have HIn := Lib.hid (inNQ HCj.out.1.is HCj.out.2)
          go_wp2_with fail
          refine HIn.out.mono ?_
          rintro en wj ⟨rfl, bj⟩
          have HF := Lib.hid (HCj.out.1.below bj)
          clear bj
          go_wp2_with fail
          refine (awake36 _).mono ?_
          rintro en wa2 ⟨rfl, ba2⟩
          have HB2 := Lib.hid (HB0.out.trans ((HF.out.bel.trans (ba2.mono HF.out.bel.size)).mono hw0s))
          clear ba2
          go_wp2
          go_ret
          exact ⟨rfl, HB2.out⟩
end Go.Proofs.YtbkckbphkfakkaaGreat
end
