/- Joined: Xq26, Xq27, On2, Aw5, Cw11, Cw12. -/
import Derived.Laws.LoneSync
import Derived.Deep.DeepCutAuto
import Derived.Deep.RegionHeld3
import Derived.Test.YtkdaiomjbkpedaaGreatMgCnaU1
import Derived.Test.YtkdaiomjbkpedaaGreatMgCnaU11
import Derived.Test.YtkdaiomjbkpedaaGreatMgCnaU16
import Derived.Test.YtkdaiomjbkpedaaGreatMgCnaU20
section
/- Running closed code: atomic loads and stores; sync.Once. -/
namespace Go.Proofs.YtkdaiomjbkpedaaGreat
open Go.RowKit
set_option linter.unusedVariables false

theorem mv_upd {nx : Nat} {r : Nm} {H : Hp} {w w' : World} (h : RelH r H w) {k : Nat} {B B' : Bk} (hk : H.get k = some B) {b sz : Nat} (rk : r k = some (b, sz)) (hB : BR r w' B' b sz)
    (ho : ∀ c, c ≠ b → w'.heap[c]? = w.heap[c]?) (h1 : w'.os = w.os) (h2 : w'.tape = w.tape) (h3 : w'.output = w.output) (h4 : w'.heap.size = w.heap.size) : Mv nx r H w nx r (H.set k B') w' := by
  refine ⟨Nm.le_refl _, Nat.le_refl _, fun _ _ => rfl, h.upd hk rk hB ho, h1, h2, h3, by omega, fun c hc hno => ?_, fun j D c s hj rj => ?_⟩
  · refine ho c ?_
    rintro rfl
    exact hno k B sz hk rk
  · rw [Tr.get_set] at hj
    by_cases e : j = k
    · subst e; exact .inr ⟨j, B, s, hk, rj⟩
    · rw [if_neg e] at hj; exact .inr ⟨j, D, s, hj, rj⟩
theorem BR.cell {r : Nm} {w : World} {B : Bk} {b sz : Nat} (h : BR r w B b sz) {o : Nat} (ho : o < B.n) : ∃ v, w.cell? ⟨b, o, none⟩ = some v ∧ CR r (B.cell o) v := by
  obtain ⟨cs, hg, hsz, hn, hc⟩ := h.ex
  obtain ⟨v, hv, hr⟩ := hc o ho
  exact ⟨v, by rw [cell_of_row w b o cs B.e (0, 0) hg]; exact hv, hr⟩
theorem BR.frozen {r : Nm} {w : World} {B : Bk} {b sz : Nat} (h : BR r w B b sz) (o : Nat) : w.frozen? ⟨b, o, none⟩ = false := by
  obtain ⟨cs, hg, _⟩ := h.ex
  simp [World.frozen?, hg]
theorem BR.int {r : Nm} {w : World} {B : Bk} {b sz : Nat} (h : BR r w B b sz) {o : Nat} (ho : o < B.n) {k : IntKind} {x : Int} (e : B.cell o = .i k x) : w.cell? ⟨b, o, none⟩ = some (.int k x) := by
  obtain ⟨v, hv, hr⟩ := h.cell ho
  rw [e] at hr
  cases hr
  exact hv
theorem setCell_old (w : World) (b o : Nat) (v : Value) (c : Nat) (h : c ≠ b) : (w.setCell ⟨b, o, none⟩ v).heap[c]? = w.heap[c]? := by
  simp [World.setCell, Array.getElem?_modify]
  intro e; exact absurd e.symm h
theorem BR.setCell {r : Nm} {w : World} {B : Bk} {b sz : Nat} (h : BR r w B b sz) {o : Nat} (ho : o < B.n) {c : C} {v : Value} (hv : CR r c v) : BR r (w.setCell ⟨b, o, none⟩ v) (B.put o [c]) b sz := by
  obtain ⟨cs, hg, hsz, hn, hc⟩ := h.ex
  refine ⟨cs.setIfInBounds o v, ?_, by simpa using hsz, hn, fun j hj => ?_⟩
  · simp [World.setCell, Array.getElem?_modify, hg]
    rfl
  · rw [Bk.put_cell]
    by_cases e : j = o
    · subst e
      refine ⟨v, by rw [Array.getElem?_setIfInBounds_self_of_lt (by omega)], ?_⟩
      rw [if_pos ⟨Nat.le_refl _, Nat.lt_succ_self _⟩, Nat.sub_self]
      exact hv
    · obtain ⟨u, hu, hr⟩ := hc j hj
      refine ⟨u, by rw [Array.getElem?_setIfInBounds_ne (Ne.symm e)]; exact hu, ?_⟩
      rw [if_neg (by rw [List.length_singleton]; omega)]
      exact hr
theorem mv_cell {nx : Nat} {r : Nm} {H : Hp} {w : World} (h : RelH r H w) {k : Nat} {B : Bk} (hk : H.get k = some B) {b sz : Nat} (rk : r k = some (b, sz)) {o : Nat} (ho : o < B.n) {c : C} {v : Value} (hv : CR r c v) :
    Mv nx r H w nx r (H.set k (B.put o [c])) (w.setCell ⟨b, o, none⟩ v) := by
  obtain ⟨b', sz', rk', hB⟩ := h.at_ k B hk
  rw [rk] at rk'
  injection rk' with rk'
  injection rk' with e1 e2
  subst e1 e2
  exact mv_upd h hk rk (hB.setCell ho hv) (fun c hc => setCell_old w b o v c hc) rfl rfl rfl (by simp [World.setCell])
/-! ### Atomic loads and stores -/
def extL (f0 : FuncId) (k : IntKind) : ExtF := fun f xs H => if f = f0 then match xs with
  | [.w (.c (.p (some (n, o))))] => match H.get n with
    | some B => if o < B.n then match B.cell o with
      | .i j x => if j = k then some (.w (.c (.i k x)), H) else none
      | _ => none
      else none
    | none => none
  | _ => none
  else none
def extW (f0 : FuncId) (k : IntKind) : ExtF := fun f xs H => if f = f0 then match xs with
  | [.w (.c (.p (some (n, o)))), .w (.c (.i j x))] => if j = k then match H.get n with
    | some B => if o < B.n then some (.t [], H.set n (B.put o [.i k x])) else none
    | none => none
    else none
  | _ => none
  else none
def extOr (a b : ExtF) : ExtF := fun f xs H => match a f xs H with
  | some z => some z
  | none => b f xs H
theorem extOr_ok {P : Program} {a b : ExtF} (ha : ExtS P a) (hb : ExtS P b) : ExtS P (extOr a b) := by
  intro f xs H v H' h
  unfold extOr at h
  split at h
  · rename_i z hz
    injection h with h
    subst h
    exact ha f xs H v H' hz
  · exact hb f xs H v H' h
theorem extL_ok {P : Program} {f0 : FuncId} {k : IntKind} (hl : ∀ (a : Addr) (x : Int) (w : World), w.cell? a = some (.int k x) → (callFunc f0 #[.pointer (some a)]).run P w = .ok (.value (.int k x)) w) : ExtS P (extL f0 k) := by
  intro f xs H v H' h r w us hu hH
  unfold extL at h
  split at h
  case isFalse => cases h
  rename_i hf
  subst hf
  split at h
  case h_2 => cases h
  rename_i n o
  split at h
  case h_2 => cases h
  rename_i B hB
  split at h
  case isFalse => cases h
  rename_i ho
  split at h
  case h_2 => cases h
  rename_i j x hc
  split at h
  case isFalse => cases h
  rename_i hj
  subst hj
  injection h with h
  injection h with h1 h2
  subst h1 h2
  cases hu with | cons hx ht => cases ht with | nil => cases hx with | w hx => cases hx with | c hx => cases hx with | p rk =>
  obtain ⟨b, sz, rk', hBR⟩ := hH.at_ n B hB
  rw [rk] at rk'
  injection rk' with rk'
  injection rk' with e1 e2
  subst e1 e2
  exact ⟨_, w, hl _ x w (hBR.int ho hc), .w (.c (.i _ _)), fun nx => Mv.refl hH⟩
theorem extW_ok {P : Program} {f0 : FuncId} {k : IntKind} (hl : ∀ (a : Addr) (u : Value) (y : Int) (w : World), w.cell? a = some u → w.frozen? a = false → (callFunc f0 #[.pointer (some a), .int k y]).run P w = .ok (.value (.tuple #[])) (w.setCell a (.int k y))) : ExtS P (extW f0 k) := by
  intro f xs H v H' h r w us hu hH
  unfold extW at h
  split at h
  case isFalse => cases h
  rename_i hf
  subst hf
  split at h
  case h_2 => cases h
  rename_i n o j x
  split at h
  case isFalse => cases h
  rename_i hj
  subst hj
  split at h
  case h_2 => cases h
  rename_i B hB
  split at h
  case isFalse => cases h
  rename_i ho
  injection h with h
  injection h with h1 h2
  subst h1 h2
  cases hu with | cons hx ht => cases ht with | cons hy ht => cases ht with | nil => cases hx with | w hx => cases hx with | c hx => cases hx with | p rk =>
  cases hy with | w hy => cases hy with | c hy => cases hy with | i =>
  obtain ⟨b, sz, rk', hBR⟩ := hH.at_ n B hB
  rw [rk] at rk'
  injection rk' with rk'
  injection rk' with e1 e2
  subst e1 e2
  obtain ⟨u, hcu, _⟩ := hBR.cell ho
  exact ⟨_, _, hl _ u x w hcu (hBR.frozen o), .t .nil, fun nx => mv_cell hH hB rk ho (.i _ _)⟩
/-! ### sync.Once -/
def onceEndW (b off : Nat) (w2 : World) : World := (w2.drew.setCell ⟨b, off, none⟩ (.int .u32 1)).setCell ⟨b, off + 1, none⟩ (.int .i32 0)
structure OnceH (b off : Nat) (w : World) : Prop where
  c0 : w.cell? ⟨b, off, none⟩ = some (.int .u32 0)
  c1 : w.cell? ⟨b, off + 1, none⟩ = some (.int .i32 1)
  f0 : w.frozen? ⟨b, off, none⟩ = false
  f1 : w.frozen? ⟨b, off + 1, none⟩ = false
/-- what doSlow does, given what the function does -/
def OnceS (P : Program) (fSlow fn : FuncId) : Prop := ∀ (b off : Nat) (x : Value) (w : World) (R : World → Prop), w.cell? ⟨b, off, none⟩ = some (.int .u32 0) → w.cell? ⟨b, off + 1, none⟩ = some (.int .i32 0) →
  w.frozen? ⟨b, off, none⟩ = false → w.frozen? ⟨b, off + 1, none⟩ = false →
  Calls P fn #[x] (w.setCell ⟨b, off + 1, none⟩ (.int .i32 1)) (fun e w2 => e = .returned (.tuple #[]) ∧ OnceH b off w2 ∧ R w2) →
  Calls P fSlow #[.pointer (some ⟨b, off, none⟩), .func (.func fn) #[x] #[]] w fun e w' => e = .returned (.tuple #[]) ∧ ∃ w2, R w2 ∧ w' = onceEndW b off w2
def isI : C → IntKind → Int → Bool
  | .i j x, k, y => decide (j = k) && x == y
  | _, _, _ => false
theorem isI_ok {c : C} {k : IntKind} {y : Int} (h : isI c k y = true) : c = .i k y := by
  cases c <;> simp [isI] at h
  obtain ⟨rfl, rfl⟩ := h
  rfl
def spOnce (fSlow fn : FuncId) : SpF := fun call f xs H nx => if f = fSlow then match xs with
  | [.w (.c (.p (some (k, o)))), .w (.c (.f g [a] []))] => if g = fn then match H.get k with
    | some B => if Nat.blt (o + 1) B.n && isI (B.cell o) .u32 0 && isI (B.cell (o + 1)) .i32 0 then
        match call fn [.w (.c (.p (some a)))] (H.set k (B.put (o + 1) [.i .i32 1])) nx with
        | some (.t [], H1, nx1) => match H1.get k with
          | some B1 => if Nat.blt (o + 1) B1.n && isI (B1.cell o) .u32 0 && isI (B1.cell (o + 1)) .i32 1 then
              some (.t [], (H1.set k (B1.put o [.i .u32 1])).set k ((B1.put o [.i .u32 1]).put (o + 1) [.i .i32 0]), nx1)
            else none
          | none => none
        | _ => none
      else none
    | none => none
    else none
  | _ => none
  else none
theorem spOnce_ok {P : Program} {fSlow fn : FuncId} (hS : OnceS P fSlow fn) : SpS P (spOnce fSlow fn) := by
  intro call hcall f xs H nx v H' nx' h r w us hu hH hf
  unfold spOnce at h
  split at h
  case isFalse => cases h
  rename_i hff
  subst hff
  split at h
  case h_2 => cases h
  rename_i k o g a
  split at h
  case isFalse => cases h
  rename_i hg
  subst hg
  split at h
  case h_2 => cases h
  rename_i B hB
  split at h
  case isFalse => cases h
  rename_i hc
  simp only [Bool.and_eq_true] at hc
  obtain ⟨⟨hn, hc0⟩, hc1⟩ := hc
  have hn := blt_of hn
  split at h
  case h_2 => cases h
  rename_i H1 nx1 hcl
  split at h
  case h_2 => cases h
  rename_i B1 hB1
  split at h
  case isFalse => cases h
  rename_i hd
  simp only [Bool.and_eq_true] at hd
  obtain ⟨⟨hm, hd0⟩, hd1⟩ := hd
  have hm := blt_of hm
  injection h with h
  injection h with h1 h2
  injection h2 with h2 h3
  subst h1 h2 h3
  cases hu with | cons hx ht => cases ht with | cons hy ht => cases ht with | nil => cases hx with | w hx => cases hx with | c hx => cases hx with | p rk =>
  rename_i b sz
  cases hy with | w hy => cases hy with | c hy => cases hy with | f _ ha hcp =>
  cases hcp
  cases ha with | cons rka ha =>
  cases ha with | nil =>
  rename_i ka oa ba sza
  obtain ⟨b', sz', rk', hBR⟩ := hH.at_ k B hB
  rw [rk] at rk'
  injection rk' with rk'
  injection rk' with e1 e2
  subst e1 e2
  have m1 : Mv nx r H w nx r (H.set k (B.put (o + 1) [.i .i32 1])) (w.setCell ⟨b, o + 1, none⟩ (.int .i32 1)) := mv_cell hH hB rk hn (.i _ _)
  have hfind := hcall _ _ _ _ _ _ _ hcl r (w.setCell ⟨b, o + 1, none⟩ (.int .i32 1)) [ptrOf ba oa] (.cons (.w (.c (.p rka))) .nil) m1.rel hf
  have hres := hS b o (ptrOf ba oa) w (fun w2 => ∃ r1, Mv nx r (H.set k (B.put (o + 1) [.i .i32 1])) (w.setCell ⟨b, o + 1, none⟩ (.int .i32 1)) nx1 r1 H1 w2 ∧ fresh r1 nx1)
    (hBR.int (by omega) (isI_ok hc0)) (hBR.int hn (isI_ok hc1)) (hBR.frozen o) (hBR.frozen (o + 1)) (hfind.mono fun e w2 ⟨r1, u, he, hv, hmv, hfr⟩ => by
      cases hv with | t hv =>
      cases hv with | nil =>
      have rk1 := hmv.le _ _ rk
      obtain ⟨b', sz', rk', hBR1⟩ := hmv.rel.at_ k B1 hB1
      rw [rk1] at rk'
      injection rk' with rk'
      injection rk' with e1 e2
      subst e1 e2
      exact ⟨he, ⟨hBR1.int (by omega) (isI_ok hd0), hBR1.int hm (isI_ok hd1), hBR1.frozen o, hBR1.frozen (o + 1)⟩, r1, hmv, hfr⟩)
  refine hres.mono fun e w' ⟨he, w2, ⟨r1, hmv, hfr⟩, hw'⟩ => ?_
  subst hw'
  have rk1 := hmv.le _ _ rk
  have m2 : Mv nx1 r1 H1 w2.drew nx1 r1 (H1.set k (B1.put o [.i .u32 1])) (w2.drew.setCell ⟨b, o, none⟩ (.int .u32 1)) := mv_cell hmv.drew.rel hB1 rk1 (by omega) (.i _ _)
  have m3 : Mv nx1 r1 (H1.set k (B1.put o [.i .u32 1])) (w2.drew.setCell ⟨b, o, none⟩ (.int .u32 1)) nx1 r1 ((H1.set k (B1.put o [.i .u32 1])).set k ((B1.put o [.i .u32 1]).put (o + 1) [.i .i32 0])) (onceEndW b o w2) :=
    mv_cell m2.rel (by rw [Tr.get_set, if_pos rfl]) rk1 (by show o + 1 < B1.n; exact hm) (.i _ _)
  exact ⟨r1, _, he, .t .nil, ((m1.trans hmv).trans m2.from_drew).trans m3, hfr⟩
end Go.Proofs.YtkdaiomjbkpedaaGreat
end
section
/- Running closed code: atomic sums, swaps, compare-and-swaps. -/
namespace Go.Proofs.YtkdaiomjbkpedaaGreat
open Go.RowKit
set_option linter.unusedVariables false

def vI : C → Value
  | .i k n => .int k n
  | .b x => .bool x
  | _ => undef
def intsOf : List V → Option (List C)
  | [] => some []
  | .w (.c (.i k n)) :: l => match intsOf l with
    | some cs => some (.i k n :: cs)
    | none => none
  | _ => none
theorem intsOf_ok {r : Nm} {xs : List V} {us : List Value} (h : VsR r xs us) : ∀ {cs : List C}, intsOf xs = some cs → us = cs.map vI := by
  induction h with
  | nil => intro cs e; injection e with e; subst e; rfl
  | cons hx _ ih =>
    intro cs e
    unfold intsOf at e
    split at e
    · rename_i heq; cases heq
    · rename_i k n l heq
      injection heq with h1 h2
      subst h1 h2
      split at e
      · rename_i cs' hcs
        injection e with e
        subst e
        cases hx with | w hx => cases hx with | c hx => cases hx with | i =>
        rw [ih hcs]; rfl
      · cases e
    · cases e
/-- what an atomic operation makes of a cell's number: its answer, what it stores -/
abbrev AtF := Int → List C → Option (C × Option Int)
def extG (f0 : FuncId) (k : IntKind) (g : AtF) : ExtF := fun f xs H => if f = f0 then match xs with
  | .w (.c (.p (some (n, o)))) :: rest => match intsOf rest, H.get n with
    | some cs, some B => if o < B.n then match B.cell o with
      | .i j x => if j = k then match g x cs with
        | some (c, none) => some (.w (.c c), H)
        | some (c, some y) => some (.w (.c c), H.set n (B.put o [.i k y]))
        | none => none
        else none
      | _ => none
      else none
    | _, _ => none
  | _ => none
  else none
def AtS (P : Program) (f0 : FuncId) (k : IntKind) (g : AtF) : Prop := ∀ (a : Addr) (x : Int) (cs : List C) (c : C) (ny : Option Int) (w : World), g x cs = some (c, ny) → w.cell? a = some (.int k x) → w.frozen? a = false →
  (∀ r, CR r c (vI c)) ∧ (callFunc f0 (.pointer (some a) :: cs.map vI).toArray).run P w = .ok (.value (vI c)) (match ny with | none => w | some y => w.setCell a (.int k y))
theorem extG_ok {P : Program} {f0 : FuncId} {k : IntKind} {g : AtF} (hg : AtS P f0 k g) : ExtS P (extG f0 k g) := by
  intro f xs H v H' h r w us hu hH
  unfold extG at h
  split at h
  case isFalse => cases h
  rename_i hf
  subst hf
  split at h
  case h_2 => cases h
  rename_i n o rest
  split at h
  case h_2 => cases h
  rename_i cs B hcs hB
  split at h
  case isFalse => cases h
  rename_i ho
  split at h
  case h_2 => cases h
  rename_i j x hc
  split at h
  case isFalse => cases h
  rename_i hj
  subst hj
  cases hu with | cons hx ht => cases hx with | w hx => cases hx with | c hx => cases hx with | p rk =>
  have hus := intsOf_ok ht hcs
  subst hus
  obtain ⟨b, sz, rk', hBR⟩ := hH.at_ n B hB
  rw [rk] at rk'
  injection rk' with rk'
  injection rk' with e1 e2
  subst e1 e2
  split at h
  · rename_i c hgc
    injection h with h
    injection h with h1 h2
    subst h1 h2
    obtain ⟨k1, k2⟩ := hg _ x cs c none w hgc (hBR.int ho hc) (hBR.frozen o)
    exact ⟨_, w, k2, .w (.c (k1 r)), fun nx => Mv.refl hH⟩
  · rename_i c y hgc
    injection h with h
    injection h with h1 h2
    subst h1 h2
    obtain ⟨k1, k2⟩ := hg _ x cs c (some y) w hgc (hBR.int ho hc) (hBR.frozen o)
    exact ⟨_, _, k2, .w (.c (k1 r)), fun nx => mv_cell hH hB rk ho (.i _ _)⟩
  · cases h
def gAdd (k : IntKind) : AtF := fun x cs => match cs with
  | [.i j y] => if j = k then some (.i k (k.wrap (x + y)), some (k.wrap (x + y))) else none
  | _ => none
def gSwap (k : IntKind) : AtF := fun x cs => match cs with
  | [.i j y] => if j = k then some (.i k x, some y) else none
  | _ => none
def gCas (k : IntKind) : AtF := fun x cs => match cs with
  | [.i j o, .i m y] => if j = k ∧ m = k then (if x = o then some (.b true, some y) else some (.b false, none)) else none
  | _ => none
section
variable {P : Program} {f : FuncId} {fn : Func} (hf : P.funcs[f]? = some fn) (hname : (fn.name == "runtime.NumGoroutine") = false) (hb : fn.body.isNone = true) (hn : Extern.findNext fn = none) (k : IntKind)
include hf hname hb hn
theorem gAdd_ok (he : Extern.find fn = some (Extern.Atomic.update (Op.intArith .add) k true)) : AtS P f k (gAdd k) := by
  intro a x cs c ny w h hc hz
  unfold gAdd at h
  split at h
  case h_2 => cases h
  split at h
  case isFalse => cases h
  rename_i hj
  subst hj
  injection h with h
  injection h with h1 h2
  subst h1 h2
  exact ⟨fun r => .i _ _, run_call_add hf hname hb hn _ he hc hz (by simp [Op.intArith])⟩
theorem gSwap_ok (he : Extern.find fn = some (Extern.Atomic.swapT (.int k))) : AtS P f k (gSwap k) := by
  intro a x cs c ny w h hc hz
  unfold gSwap at h
  split at h
  case h_2 => cases h
  split at h
  case isFalse => cases h
  rename_i j y hj
  subst hj
  injection h with h
  injection h with h1 h2
  subst h1 h2
  refine ⟨fun r => .i _ _, ?_⟩
  show (callFunc f #[.pointer (some a), .int j y]).run P w = .ok (.value (.int j x)) (w.setCell a (.int j y))
  rw [run_callFunc_extern hf hname hb hn he]
  change (Sem.run P (do
    let a' ← asAddr (.pointer (some a))
    let old ← Extern.Atomic.read (.int j) a'
    store a' (.int j y) .atomic
    pure old) w).andThen _ = _
  simp [Extern.Atomic.read, asAddr, hc, hz, run_store P w a (.int j y) .atomic rfl, Result.andThen]
theorem gCas_ok (he : Extern.find fn = some (Extern.Atomic.casT (.int k))) : AtS P f k (gCas k) := by
  intro a x cs c ny w h hc hz
  unfold gCas at h
  split at h
  case h_2 => cases h
  split at h
  case isFalse => cases h
  rename_i j o m y hj
  obtain ⟨rfl, rfl⟩ := hj
  split at h
  · rename_i hx
    subst hx
    injection h with h
    injection h with h1 h2
    subst h1 h2
    exact ⟨fun r => .b _, run_call_cas_hit hf hname hb hn _ he hc hz⟩
  · rename_i hx
    injection h with h
    injection h with h1 h2
    subst h1 h2
    exact ⟨fun r => .b _, run_call_cas_miss hf hname hb hn _ he hc hz hx⟩
end
end Go.Proofs.YtkdaiomjbkpedaaGreat
end
section
/- sync.Once for the runner, out of the walk of doSlow. -/
namespace Go.Proofs.YtkdaiomjbkpedaaGreat
open Go.RowKit
theorem once_find : OnceS Tryz.prog 158 144 := fun b off x w R h0 h1 f0 f1 hc =>
  slow_any b off _ x w R h0 h1 f0 f1 rfl (hc.mono fun _ _ ⟨q1, q2, q3⟩ => ⟨q1, ⟨q2.c0, q2.c1, q2.f0, q2.f1⟩, q3⟩)
end Go.Proofs.YtkdaiomjbkpedaaGreat
end
section
/- Running closed code: the seat's own functions without a body, its Once; awake() of kissgatelaw29, kissgatelaw31, kissgatelaw27. -/
namespace Go.Proofs.YtkdaiomjbkpedaaGreat
open Go.RowKit

def extA : ExtF := extOr (extL 164 .u32) (extOr (extL 121 .i64) (extOr (extW 150 .i64) (extOr (extG 154 .i64 (gAdd .i64)) (extOr (extG 151 .i64 (gSwap .i64)) (extG 152 .i64 (gCas .i64))))))
def spA : SpF := spOnce 158 144
theorem extA_ok : ExtS Tryz.prog extA := extOr_ok (extL_ok fun a x w hc => run_call_load Tryz.func164 (by kernel_rfl) (by kernel_rfl) (by kernel_rfl) .u32 (by kernel_rfl) hc) (extOr_ok (extL_ok fun a x w hc => run_call_load Tryz.func121 (by kernel_rfl) (by kernel_rfl) (by kernel_rfl) .i64 (by kernel_rfl) hc) (extOr_ok (extW_ok fun a u y w hc hz => run_call_store Tryz.func150 (by kernel_rfl) (by kernel_rfl) (by kernel_rfl) (by kernel_rfl) hc hz) (extOr_ok (extG_ok (gAdd_ok Tryz.func154 (by kernel_rfl) (by kernel_rfl) (by kernel_rfl) .i64 (by kernel_rfl))) (extOr_ok (extG_ok (gSwap_ok Tryz.func151 (by kernel_rfl) (by kernel_rfl) (by kernel_rfl) .i64 (by kernel_rfl))) (extG_ok (gCas_ok Tryz.func152 (by kernel_rfl) (by kernel_rfl) (by kernel_rfl) .i64 (by kernel_rfl)))))))
theorem spA_ok : SpS Tryz.prog spA := spOnce_ok once_find
set_option maxRecDepth 1000000 in
theorem awakes29 : awakes Tryz.prog extA spA (drawR Tryz.prog extA) 3000 11 = true := by decide +kernel
theorem awake29 (w : World) : Calls Tryz.prog 11 #[] w fun e w' => e = .returned (.bool true) ∧ Below w.heap.size w w' := awakes_ok extA_ok spA_ok (drawR_ok _ _ extA_ok) awakes29 w
set_option maxRecDepth 1000000 in
theorem awakes31 : awakes Tryz.prog extA spA (drawR Tryz.prog extA) 3000 18 = true := by decide +kernel
theorem awake31 (w : World) : Calls Tryz.prog 18 #[] w fun e w' => e = .returned (.bool true) ∧ Below w.heap.size w w' := awakes_ok extA_ok spA_ok (drawR_ok _ _ extA_ok) awakes31 w
set_option maxRecDepth 1000000 in
theorem awakes27 : awakes Tryz.prog extA spA (drawR Tryz.prog extA) 3000 26 = true := by decide +kernel
theorem awake27 (w : World) : Calls Tryz.prog 26 #[] w fun e w' => e = .returned (.bool true) ∧ Below w.heap.size w w' := awakes_ok extA_ok spA_ok (drawR_ok _ _ extA_ok) awakes27 w
end Go.Proofs.YtkdaiomjbkpedaaGreat
end
section
/- Layer 31 (cna): the walk of CnaOne. -/
namespace Go.Proofs.YtkdaiomjbkpedaaGreat
open Go.RowKit

set_option maxRecDepth 100000 in
theorem longOneC (w : World) (vP vT : Value) (n0 : Int) (A : Option Addr) (m c : Nat) (h1 : 150 < m) (h2 : m ≤ 9223372036854775807) :
    Calls Tryz.prog 7 #[.agg #[vP, vT], .int .u8 n0, .slice A m c] w fun e w' => e = .returned (.bool true) ∧ Below w.heap.size w w' := by
  have HB : Hid (∀ o : Obj, Below w.heap.size w (w.alloc o)) := Lib.hid fun o => (Below.refl _ _).alloc (Nat.le_refl _) o
  go_enter Tryz.func7, Tryz.ntmps7
  go_wp2_with fail
  refine (awake31 _).mono ?_
  rintro en w1 ⟨rfl, hb⟩
  go_wp2
  go_ret
  exact ⟨rfl, (HB.out _).trans (hb.mono (by simp))⟩
set_option maxRecDepth 100000 in
set_option maxHeartbeats 1000000 in
theorem noOneC (w : World) (vP vT : Value) (n0 : Nat) (hs : SmNo w vP vT 8) (A : Option Addr) (m c : Nat) (hm : m ≤ 150) :
    Calls Tryz.prog 7 #[.agg #[vP, vT], .int .u8 n0, .slice A m c] w fun e w' => e = .returned (.bool true) ∧ Below w.heap.size w w' := by
  have HB0 := Lib.hid ((Below.refl w.heap.size w).alloc (Nat.le_refl _) (.cells #[vP, vT] 24))
  have hX : (w.alloc (.cells #[vP, vT] 24)).cell? ⟨w.heap.size, 0, none⟩ = some vP ∧ (w.alloc (.cells #[vP, vT] 24)).cell? ⟨w.heap.size, 1, none⟩ = some vT := by simp [World.cell?_alloc_new]
  have HX := Lib.hid hX
  have hbx : w.heap.size < (w.alloc (.cells #[vP, vT] 24)).heap.size := by simp
  have HM := Lib.hid (madeNoC _ vP vT n0 (hs.below HB0.out))
  have HS := Lib.hid hs
  clear hs hX
  go_enter Tryz.func7, Tryz.ntmps7
  go_wp2_with fail
  refine HM.out.mono ?_
  rintro en w1 ⟨rfl, b1⟩
  have f0 : w1.cell? ⟨w.heap.size, 0, none⟩ = some vP := (b1.cell (p := ⟨w.heap.size, 0, none⟩) hbx).trans HX.out.1
  have f1 : w1.cell? ⟨w.heap.size, 1, none⟩ = some vT := (b1.cell (p := ⟨w.heap.size, 1, none⟩) hbx).trans HX.out.2
  have HB1 := Lib.hid (HB0.out.trans (b1.mono HB0.out.size))
  clear b1 hbx
  go_wp2_with fail
  refine (HS.out _ HB1.out).mono ?_
  rintro en w2 ⟨rfl, b2⟩
  have HB2 := Lib.hid (HB1.out.trans (b2.mono HB1.out.size))
  clear b2
  go_wp2_with fail
  refine (awake31 _).mono ?_
  rintro en w3 ⟨rfl, b3⟩
  have HB3 := Lib.hid (HB2.out.trans (b3.mono HB2.out.size))
  clear b3
  go_wp2
  go_ret
  exact ⟨rfl, HB3.out⟩
set_option maxRecDepth 100000 in
set_option maxHeartbeats 8000000 in
theorem one31 (w : World) (vP : Value) (AT : Option Addr) (cT : Nat) (P T : List Int) (hP : RdL w vP 1 encI P) (hT : RdL w (.slice AT T.length cT) 1 encI T) (n0 : Nat) (hn0 : n0 < 256) (hs : smallB P T 8 = true) (v : Value) (ls : List (Int × Int)) (h : RdL w v 2 encP ls) (hl150 : ls.length ≤ 150) :
    Calls Tryz.prog 7 #[.agg #[vP, .slice AT T.length cT], .int .u8 n0, v] w fun e w' => e = .returned (.bool true) ∧ Below w.heap.size w w' := by
  obtain ⟨A, cap, rfl, l1, l2, hr⟩ := h
  have HR := Lib.hid hr
  have hT8 : T.length ≤ 8 := by have := (of_decide_eq_true hs).2; omega
  have HB0 := Lib.hid ((Below.refl w.heap.size w).alloc (Nat.le_refl _) (.cells #[vP, .slice AT T.length cT] 24))
  have hX : (w.alloc (.cells #[vP, .slice AT T.length cT] 24)).cell? ⟨w.heap.size, 0, none⟩ = some vP ∧ (w.alloc (.cells #[vP, .slice AT T.length cT] 24)).cell? ⟨w.heap.size, 1, none⟩ = some (.slice AT T.length cT) := by simp [World.cell?_alloc_new]
  have HX := Lib.hid hX
  have hbx : w.heap.size < (w.alloc (.cells #[vP, .slice AT T.length cT] 24)).heap.size := by simp
  have HM := Lib.hid (madeYesC _ vP _ P T (hP.alloc (.cells #[vP, .slice AT T.length cT] 24)) (hT.alloc _) n0 hn0 hs)
  clear hr hX hP hT hs
  go_enter Tryz.func7, Tryz.ntmps7
  go_wp2_with fail
  refine HM.out.mono ?_
  rintro en w1 ⟨c, cap, h0, rfl, hS, _⟩
  obtain ⟨bud, hbud⟩ : ∃ x, x = (n0 : Int) % 4 := ⟨_, rfl⟩
  rw [← hbud] at hS
  clear hbud
  obtain ⟨w0, hw0⟩ : ∃ w0, w0 = w.alloc (.cells #[vP, .slice AT T.length cT] 24) := ⟨_, rfl⟩
  rw [← hw0] at hS hbx HX HB0
  have H0 := Lib.hid hS
  have hw0s : w.heap.size ≤ w0.heap.size := HB0.out.size
  clear hS HM hw0
  go_wp2
  go_loopw [10] (fun i wr => ∃ (k : Nat) (h : Cn) (G : Cfg), i = .int .i64 k ∧ k ≤ ls.length ∧ CSt w0 wr c cap bud P T h k G) (fun i _ => ls.length - (intOf i).toNat)
  case atStart => exact ⟨0, h0, none, rfl, by omega, H0.out⟩
  case round =>
    clear H0
    obtain ⟨k, h, G, rfl, hk, hW⟩ := hrel
    obtain ⟨wo, rfl⟩ : ∃ wo : World, wo = wr := ⟨_, rfl⟩
    have HW := Lib.hid hW
    clear hW
    by_cases hlt : k < ls.length
    · obtain ⟨bl, off, rfl, hbl, hc⟩ := HR.out (by omega)
      obtain ⟨⟨kd, ii⟩, hx⟩ := getElem?_lt hlt
      have HC : Hid (∀ W, Below w0.heap.size w0 W → (W.cell? ⟨bl, off + k * 2, none⟩ = some (.int .i64 kd) ∧ W.cell? ⟨bl, off + k * 2 + 1, none⟩ = some (.int .i64 ii)) ∧ W.cell? ⟨w.heap.size, 1, none⟩ = some (.slice AT T.length cT)) := Lib.hid fun W hW =>
        ⟨⟨((HB0.out.trans (hW.mono hw0s)).cell (p := ⟨bl, off + k * 2 + 0, none⟩) hbl).trans (hc k _ hx 0 _ rfl), ((HB0.out.trans (hW.mono hw0s)).cell (p := ⟨bl, off + k * 2 + 1, none⟩) hbl).trans (hc k _ hx 1 _ rfl)⟩, (hW.cell (p := ⟨w.heap.size, 1, none⟩) hbx).trans HX.out.2⟩
      have hops := HW.out.ok.ops
      have HD := Lib.hid (doCs HW.out (by omega) kd ii)
      obtain ⟨⟨x0, x1⟩, x2⟩ := HC.out _ HW.out.bel
      clear hc hx
      go_wp2_with fail
      refine (aops_any HW.out.is.ar).mono ?_
      rintro en w2 ⟨rfl, rfl⟩
      go_wp2_with fail
      refine HD.out.mono ?_
      rintro en w3 ⟨rr, h', G', hh, rfl, s3, _, ho1, ho2, _⟩
      have H3 := Lib.hid s3
      have HO := Lib.hid (And.intro ho1 ho2)
      have hJ := fun m hm => (hold_one (n := T.length) (fun _ _ ha hb h1 h2 => s3.ok.hold1 ha hb h1 h2) m hm).1
      have hSl : h'.S.length = T.length := by rw [s3.is.sl, s3.len]
      clear s3 hh ho1 ho2 HD x0 x1 x2
      go_wp2
      go_loopw [12, 13] (fun hd kk wr => ∃ j : Nat, kk = .int .i64 j ∧ j ≤ T.length ∧ hd = .int .i64 (holdC h'.S j : Nat) ∧ CSt w0 wr c cap bud P T h' (k + 1) G') (fun _ kk _ => T.length - (intOf kk).toNat)
      case atStart => exact ⟨0, rfl, by omega, rfl, H3.out⟩
      case round =>
        obtain ⟨j, rfl, hj, rfl, hC⟩ := hrel
        obtain ⟨wi, rfl⟩ : ∃ wi : World, wi = wr := ⟨_, rfl⟩
        have HCj := Lib.hid hC
        obtain ⟨⟨x0, x1⟩, x2⟩ := HC.out _ hC.bel
        have hn1 := hJ j hj
        clear hC
        by_cases hjs : j < T.length
        · obtain ⟨pj, hpj⟩ : ∃ pj, pj = getS h'.S j := ⟨_, rfl⟩
          have HPj := Lib.hid (show getS h'.S j = pj ∧ sv h'.S j = pj from ⟨hpj.symm, by rw [hpj, getS_nat (by omega)]⟩)
          clear hpj
          go_wp2_with fail
          refine (HCj.out.spot j).mono ?_
          rintro en wj ⟨rfl, bj⟩
          rw [HPj.out.1]
          unfold spotV
          have hfp := field_pc
          have HCk := Lib.hid (HCj.out.below bj)
          have HS := Lib.hid (holdC_succ h'.S j)
          clear bj x0 x1 x2
          cases e10 : (pj.pc == 10)
          · have HE := Lib.hid (show holdC h'.S (j + 1) = holdC h'.S j from by
              rw [HS.out, HPj.out.2, if_neg]
              · omega
              · simpa using e10)
            go_wp2
            go_roundw
            case rel => exact ⟨j + 1, by go_num, by omega, by rw [HE.out], HCk.out⟩
            case measure => simp [intOf]; omega
          · have HE := Lib.hid (show holdC h'.S (j + 1) = holdC h'.S j + 1 from by
              rw [HS.out, HPj.out.2, if_pos (by simpa using e10)])
            go_wp2
            go_roundw
            case rel => exact ⟨j + 1, by go_num, by omega, by rw [HE.out]; go_num, HCk.out⟩
            case measure => simp [intOf]; omega
        · obtain rfl : j = T.length := by omega
          have g0 : decide (1 < ((holdC h'.S T.length : Nat) : Int)) = false := decide_eq_false (by omega)
          have hop := HO.out.1
          have g1 : decide (((h.ar.ops : Nat) : Int) + 1 < ((h'.ar.ops : Nat) : Int)) = false := decide_eq_false (by omega)
          go_upto_region 17 with fail
          go_cut [83] (fun s83 wx => s83 = .bool false ∧ wx = wi)
          case first =>
            go_wp2_with fail
            refine (aops_any HCj.out.is.ar).mono ?_
            rintro en w5 ⟨rfl, rfl⟩
            by_cases hkd : kd = 0
            · subst hkd
              go_wp2
              go_meet
              case rel => exact ⟨rfl, rfl⟩
            · have g2 : (kd != 0) = true := by simpa using hkd
              have g3 := HO.out.2 hkd
              go_wp2_with fail
              refine (aops_any HCj.out.is.ar).mono ?_
              rintro en w6 ⟨rfl, rfl⟩
              go_wp2
              go_meet
              case rel => exact ⟨congrArg Value.bool (by simp; omega), rfl⟩
          case rest =>
            obtain ⟨rfl, rfl⟩ := hcut
            go_wp2
            go_roundw
            case rel => exact ⟨k + 1, h', G', by go_num, by omega, HCj.out⟩
            case measure => simp [intOf]; omega
    · obtain rfl : k = ls.length := by omega
      go_wp2_with fail
      refine (awake31 _).mono ?_
      rintro en wa2 ⟨rfl, ba2⟩
      have HB2 := Lib.hid (HB0.out.trans ((HW.out.bel.trans (ba2.mono HW.out.bel.size)).mono hw0s))
      clear ba2
      go_wp2
      go_ret
      exact ⟨rfl, HB2.out⟩
end Go.Proofs.YtkdaiomjbkpedaaGreat
end
section
/- Layer 31 (cna): the walk of CnaPassed. -/
namespace Go.Proofs.YtkdaiomjbkpedaaGreat
open Go.RowKit

set_option maxRecDepth 100000 in
theorem longPc (w : World) (vP vT : Value) (n0 : Int) (A : Option Addr) (m c : Nat) (h1 : 150 < m) (h2 : m ≤ 9223372036854775807) :
    Calls Tryz.prog 5 #[.agg #[vP, vT], .int .u8 n0, .slice A m c] w fun e w' => e = .returned (.bool true) ∧ Below w.heap.size w w' := by
  have HB : Hid (∀ o : Obj, Below w.heap.size w (w.alloc o)) := Lib.hid fun o => (Below.refl _ _).alloc (Nat.le_refl _) o
  go_enter Tryz.func5, Tryz.ntmps5
  go_wp2_with fail
  refine (awake31 _).mono ?_
  rintro en w1 ⟨rfl, hb⟩
  go_wp2
  go_ret
  exact ⟨rfl, (HB.out _).trans (hb.mono (by simp))⟩
set_option maxRecDepth 100000 in
set_option maxHeartbeats 1000000 in
theorem noPc (w : World) (vP vT : Value) (n0 : Nat) (hs : SmNo w vP vT 8) (A : Option Addr) (m c : Nat) (hm : m ≤ 150) :
    Calls Tryz.prog 5 #[.agg #[vP, vT], .int .u8 n0, .slice A m c] w fun e w' => e = .returned (.bool true) ∧ Below w.heap.size w w' := by
  have HB0 := Lib.hid ((Below.refl w.heap.size w).alloc (Nat.le_refl _) (.cells #[vP, vT] 24))
  have hX : (w.alloc (.cells #[vP, vT] 24)).cell? ⟨w.heap.size, 0, none⟩ = some vP ∧ (w.alloc (.cells #[vP, vT] 24)).cell? ⟨w.heap.size, 1, none⟩ = some vT := by simp [World.cell?_alloc_new]
  have HX := Lib.hid hX
  have hbx : w.heap.size < (w.alloc (.cells #[vP, vT] 24)).heap.size := by simp
  have HM := Lib.hid (madeNoC _ vP vT n0 (hs.below HB0.out))
  have HS := Lib.hid hs
  clear hs hX
  go_enter Tryz.func5, Tryz.ntmps5
  go_wp2_with fail
  refine HM.out.mono ?_
  rintro en w1 ⟨rfl, b1⟩
  have f0 : w1.cell? ⟨w.heap.size, 0, none⟩ = some vP := (b1.cell (p := ⟨w.heap.size, 0, none⟩) hbx).trans HX.out.1
  have f1 : w1.cell? ⟨w.heap.size, 1, none⟩ = some vT := (b1.cell (p := ⟨w.heap.size, 1, none⟩) hbx).trans HX.out.2
  have HB1 := Lib.hid (HB0.out.trans (b1.mono HB0.out.size))
  clear b1 hbx
  go_wp2_with fail
  refine (HS.out _ HB1.out).mono ?_
  rintro en w2 ⟨rfl, b2⟩
  have HB2 := Lib.hid (HB1.out.trans (b2.mono HB1.out.size))
  clear b2
  go_wp2_with fail
  refine (awake31 _).mono ?_
  rintro en w3 ⟨rfl, b3⟩
  have HB3 := Lib.hid (HB2.out.trans (b3.mono HB2.out.size))
  clear b3
  go_wp2
  go_ret
  exact ⟨rfl, HB3.out⟩
theorem mostC (w : World) (n : Nat) (bud v : Int) (h1 : 1 ≤ n) (h2 : n ≤ 32) (h3 : 0 ≤ bud) (h4 : bud ≤ 3) (hv : v = n - 1 + n * bud) : Calls Tryz.prog 22 #[.int .i64 n, .int .i64 bud] w fun e w' => e = .returned (.int .i64 v) ∧ w = w' := by
  have HR := Lib.hid (rightB bud w h3 (by omega))
  have hb : bud = 0 ∨ bud = 1 ∨ bud = 2 ∨ bud = 3 := by omega
  obtain ⟨m, hm⟩ : ∃ m, m = (n : Int) * bud := ⟨_, rfl⟩
  have hm0 : 0 ≤ m ∧ m ≤ 96 := by rcases hb with e | e | e | e <;> subst e <;> omega
  have x1 : IntKind.i64.wrap ((n : Int) * bud) = m := by rw [← hm]; exact IntWalk.i64_in _ (by omega)
  have HV := Lib.hid (show v = n - 1 + m by rw [hm]; exact hv)
  obtain ⟨hm1, hm2⟩ := hm0
  have x2 : IntKind.i64.wrap ((n : Int) - 1) = (n : Int) - 1 := IntWalk.i64_in _ (by omega)
  have x3 : IntKind.i64.wrap ((n : Int) - 1 + m) = (n : Int) - 1 + m := IntWalk.i64_in _ (by omega)
  clear hv hb hm h3 h4
  go_enter Tryz.func22, Tryz.ntmps22
  go_wp2_with fail
  refine HR.out.mono ?_
  rintro en w1 ⟨rfl, rfl⟩
  go_wp2
  go_ret
  exact ⟨ret_int HV.out.symm, rfl⟩
/-- the lock beside the row of how often each was passed -/
structure PcW (w0 w : World) (c : Cx) (cap : Nat) (bud : Int) (P T : List Int) (h : Cn) (N : Nat) (cf : Cfg) (pb : Nat) (L : List Int) : Prop where
  st : CSt w0 w c cap bud P T h N cf
  blk : Blk w pb 3 (L.map fun x => Value.int .i64 x).toArray
  np : pb ∉ [c.l, c.a, c.g, c.q, c.k, c.n1, c.nb, c.b0, c.b1, c.b2]
  nw : w0.heap.size ≤ pb
section
variable {w0 w w' : World} {c : Cx} {cap : Nat} {bud : Int} {P T : List Int} {h h' : Cn} {N M : Nat} {cf cf' : Cfg} {pb : Nat} {L : List Int}
theorem CSt.other {S : List Nat} (s : CSt w0 w c cap bud P T h N cf) (t : Turns S w w') (h1 : ∀ x ∈ S, x ∉ [c.l, c.a, c.g, c.q, c.k, c.n1, c.nb, c.b0, c.b1, c.b2]) (h2 : ∀ x ∈ S, w0.heap.size ≤ x) : CSt w0 w' c cap bud P T h N cf := by
  have e : ∀ y ∈ [c.l, c.a, c.g, c.q, c.k, c.n1, c.nb, c.b0, c.b1, c.b2], y ∉ S := fun y hy hs => h1 y hs hy
  have i := s.is
  refine ⟨⟨i.ar.turns t (e _ (by simp)) (e _ (by simp)), t.blk i.lk (e _ (by simp)), i.sp.turns t (e _ (by simp)), i.wk.turns t (e _ (by simp)) (e _ (by simp)), fun m hm => ?_, t.blk i.p0 (e _ (by simp)), t.blk i.p1 (e _ (by simp)), t.blk i.p2 (e _ (by simp)), i.sl, i.n32, i.nd4, i.st⟩, s.ok, s.bel.trans (t.below h2 s.bel.size), s.hl, s.b0, s.n8⟩
  rw [t.cell (block_lt_of_cell (i.row m hm)) (e c.nb (by simp))]
  exact i.row m hm
theorem PcW.below (s : PcW w0 w c cap bud P T h N cf pb L) (k : Below w.heap.size w w') : PcW w0 w' c cap bud P T h N cf pb L :=
  ⟨s.st.below k, (Turns.of_below (S := []) k).blk s.blk (by simp), s.np, s.nw⟩
theorem PcW.next (s : PcW w0 w c cap bud P T h N cf pb L) (k : Turns [c.a, c.g, c.q, c.k] w w') (hs : CSt w0 w' c cap bud P T h' M cf') : PcW w0 w' c cap bud P T h' M cf' pb L :=
  ⟨hs, k.blk s.blk (by have := s.np; simp at this ⊢; omega), s.np, s.nw⟩
theorem PcW.at (s : PcW w0 w c cap bud P T h N cf pb L) {i : Nat} (hi : i < L.length) : w.cell? ⟨pb, i, none⟩ = some (.int .i64 (L.getD i 0)) := by
  rw [s.blk.cell i]
  simp [List.getD_eq_getElem?_getD, List.getElem?_eq_getElem hi]
theorem PcW.put (s : PcW w0 w c cap bud P T h N cf pb L) (i : Nat) (x : Int) : PcW w0 (w.setCell ⟨pb, i, none⟩ (.int .i64 x)) c cap bud P T h N cf pb (L.set i x) := by
  have k : Turns [pb] w (w.setCell ⟨pb, i, none⟩ (.int .i64 x)) := (Turns.refl _ _).setCell (.inl (by simp)) _
  refine ⟨s.st.other k (by simpa using s.np) (by simpa using s.nw), ?_, s.np, s.nw⟩
  have := s.blk.set_ i (.int .i64 x)
  rw [show (L.map fun x => Value.int .i64 x).toArray.setIfInBounds i (.int .i64 x) = ((L.set i x).map fun x => Value.int .i64 x).toArray by simp] at this
  exact this
end
set_option maxRecDepth 100000 in
set_option maxHeartbeats 16000000 in
theorem passed31 (w : World) (vP : Value) (AT : Option Addr) (cT : Nat) (P T : List Int) (hP : RdL w vP 1 encI P) (hT : RdL w (.slice AT T.length cT) 1 encI T) (n0 : Nat) (hn0 : n0 < 256) (hs : smallB P T 8 = true) (v : Value) (ls : List (Int × Int)) (h : RdL w v 2 encP ls) (hl150 : ls.length ≤ 150) :
    Calls Tryz.prog 5 #[.agg #[vP, .slice AT T.length cT], .int .u8 n0, v] w fun e w' => e = .returned (.bool true) ∧ Below w.heap.size w w' := by
  obtain ⟨A, cap0, rfl, l1, l2, hr⟩ := h
  have HR := Lib.hid hr
  have hT8 : T.length ≤ 8 := by have := (of_decide_eq_true hs).2; omega
  have hT1 : 1 ≤ T.length := (many_lt (chk_ok (of_decide_eq_true hs).1).1).2.2.1
  have HB0 := Lib.hid ((Below.refl w.heap.size w).alloc (Nat.le_refl _) (.cells #[vP, .slice AT T.length cT] 24))
  have hX : (w.alloc (.cells #[vP, .slice AT T.length cT] 24)).cell? ⟨w.heap.size, 0, none⟩ = some vP ∧ (w.alloc (.cells #[vP, .slice AT T.length cT] 24)).cell? ⟨w.heap.size, 1, none⟩ = some (.slice AT T.length cT) := by simp [World.cell?_alloc_new]
  have HX := Lib.hid hX
  have hbx : w.heap.size < (w.alloc (.cells #[vP, .slice AT T.length cT] 24)).heap.size := by simp
  have HM := Lib.hid (madeYesC _ vP _ P T (hP.alloc (.cells #[vP, .slice AT T.length cT] 24)) (hT.alloc _) n0 hn0 hs)
  obtain ⟨mv, hmv⟩ : ∃ x : Int, x = T.length - 1 + T.length * ((n0 : Int) % 4) := ⟨_, rfl⟩
  have HMo := Lib.hid (fun W => mostC W T.length ((n0 : Int) % 4) mv hT1 (by omega) (by omega) (by omega) hmv)
  have HMV := Lib.hid hmv
  obtain ⟨i0, i0a, i0b, i0c, i0d⟩ := info_parts Tryz.infoInC
  clear hr hX hP hT hs hmv
  go_enter Tryz.func5, Tryz.ntmps5
  go_wp2_with fail
  refine HM.out.mono ?_
  rintro en w1 ⟨c, cap, h0, rfl, hS, hz0⟩
  obtain ⟨w0, hw0⟩ : ∃ w0, w0 = w.alloc (.cells #[vP, .slice AT T.length cT] 24) := ⟨_, rfl⟩
  rw [← hw0] at hS hbx HX HB0
  have H0 := Lib.hid hS
  have hw0s : w.heap.size ≤ w0.heap.size := HB0.out.size
  have f1 : w1.cell? ⟨w.heap.size, 1, none⟩ = some (.slice AT T.length cT) := (hS.bel.cell (p := ⟨w.heap.size, 1, none⟩) hbx).trans HX.out.2
  have HCT := Lib.hid (show ∀ W, Below w0.heap.size w0 W → W.cell? ⟨w.heap.size, 1, none⟩ = some (.slice AT T.length cT) from fun W hW => (hW.cell (p := ⟨w.heap.size, 1, none⟩) hbx).trans HX.out.2)
  clear hS HM hw0 hz0
  go_wp2_with (refine wpList_make_full _ rfl (.tmp 38) (.tmp 38) 22 rfl w1.heap.size 3 i0 (.int .i64 0) 1 Tryz.underlying22 i0a i0b i0c .i64 .i64 T.length T.length T.length rfl rfl rfl rfl ?b2 ?b3 (Nat.le_refl _) ?_)
  case b2 => rw [i0d]; omega
  case b3 => unfold maxLen; omega
  intro w2 hown hg
  have hbk : Blk w2 w1.heap.size 3 ((List.replicate T.length (0 : Int)).map fun x => Value.int .i64 x).toArray := by
    have := own_blk hown
    have e : (madeCells #[Value.int .i64 0] T.length).toList = List.replicate T.length (.int .i64 0) := made_const1 _ _
    rw [e] at this
    simpa using this
  have t2 : Turns [] w1 w2 := Turns.of_below ((Below.refl w1.heap.size w1).grown hg (Nat.le_refl _) (fun j hj => by cases hj))
  obtain ⟨pb, hpb⟩ : ∃ pb, pb = w1.heap.size := ⟨_, rfl⟩
  have HPS : Hid (PcW w0 w2 c cap ((n0 : Int) % 4) P T h0 0 none pb (List.replicate T.length 0)) := Lib.hid (by
    have i := H0.out.is
    have e1 := i.lk.lt
    have e2 := i.ar.blk.lt
    have e3 := i.ar.wds.lt
    have e4 : c.q < w1.heap.size := Blk.lt i.sp
    have e5 := i.wk.blk.lt
    have e6 := i.wk.row.lt
    have e7 : c.nb < w1.heap.size := block_lt_of_cell (i.row 0 (by rw [H0.out.len]; omega))
    have e8 := i.p0.lt
    have e9 := i.p1.lt
    have e10 := i.p2.lt
    rw [hpb]
    exact ⟨H0.out.other t2 (by simp) (by simp), hbk, by simp; omega, H0.out.bel.size⟩)
  rw [← hpb]
  clear hown hg hbk t2 f1 H0 hpb
  go_wp2
  go_loopw [11] (fun i wr => ∃ (k : Nat) (h : Cn) (cf : Cfg) (L : List Int) (Pf : Nat → Int), i = .int .i64 k ∧ k ≤ ls.length ∧ PcW w0 wr c cap ((n0 : Int) % 4) P T h k cf pb L ∧ CF T.length L Pf ∧ CPInv T.length ((n0 : Int) % 4) (cct h.ar.W) (effL h.S cf) (effE h.S cf) Pf) (fun i _ => ls.length - (intOf i).toNat)
  case atStart => exact ⟨0, h0, none, _, fun _ => 0, rfl, by omega, HPS.out, ⟨by simp, fun k hk => getD_repC _ _ _⟩, CPInv.start _ _ _ _⟩
  case round =>
    clear HPS
    obtain ⟨k, h, cf, L, Pf, rfl, hk, hW, hF, hI⟩ := hrel
    obtain ⟨wo, rfl⟩ : ∃ wo : World, wo = wr := ⟨_, rfl⟩
    have HW := Lib.hid hW
    have HFI := Lib.hid (And.intro hF hI)
    clear hW hF hI
    by_cases hlt : k < ls.length
    · obtain ⟨bl, off, rfl, hbl, hc⟩ := HR.out (by omega)
      obtain ⟨⟨kd, ii⟩, hx⟩ := getElem?_lt hlt
      have HC : Hid (∀ W, Below w0.heap.size w0 W → (W.cell? ⟨bl, off + k * 2, none⟩ = some (.int .i64 kd) ∧ W.cell? ⟨bl, off + k * 2 + 1, none⟩ = some (.int .i64 ii)) ∧ W.cell? ⟨w.heap.size, 1, none⟩ = some (.slice AT T.length cT)) := Lib.hid fun W hW =>
        ⟨⟨((HB0.out.trans (hW.mono hw0s)).cell (p := ⟨bl, off + k * 2 + 0, none⟩) hbl).trans (hc k _ hx 0 _ rfl), ((HB0.out.trans (hW.mono hw0s)).cell (p := ⟨bl, off + k * 2 + 1, none⟩) hbl).trans (hc k _ hx 1 _ rfl)⟩, HCT.out W hW⟩
      obtain ⟨p, hp⟩ : ∃ p, p = getS h.S ii := ⟨_, rfl⟩
      have HP := Lib.hid hp
      have hfp := field_pc
      obtain ⟨⟨y0, y1⟩, y2⟩ := HC.out _ HW.out.st.bel
      clear hc hx hp
      go_wp2_with fail
      refine (HW.out.st.spot ii).mono ?_
      rintro en w2 ⟨rfl, b2⟩
      rw [← HP.out]
      unfold spotV
      have H2 := Lib.hid (HW.out.below b2)
      clear b2 y0 y1 y2
      obtain ⟨⟨y0, y1⟩, y2⟩ := HC.out _ H2.out.st.bel
      have HD := Lib.hid (doCs H2.out.st (by omega) kd ii)
      go_wp2_with fail
      refine HD.out.mono ?_
      rintro en w4 ⟨rr, h', cf', hh, rfl, s4, ar4, _, _, t4⟩
      have H4 := Lib.hid (And.intro (H2.out.next t4 s4) ar4)
      obtain ⟨p', hp'⟩ : ∃ p, p = getS h'.S ii := ⟨_, rfl⟩
      have HP' := Lib.hid hp'
      clear s4 ar4 t4 hp' HD y0 y1 y2 hh
      obtain ⟨⟨y0, y1⟩, y2⟩ := HC.out _ H4.out.1.st.bel
      go_wp2_with fail
      refine (H4.out.1.st.spot ii).mono ?_
      rintro en w5 ⟨rfl, b5⟩
      rw [← HP'.out]
      unfold spotV
      have H5 := Lib.hid (H4.out.1.below b5)
      clear b5 y0 y1 y2
      have hSl' : h'.S.length = T.length := by rw [H5.out.st.is.sl, H5.out.st.len]
      have hSl0 : h.S.length = T.length := by rw [HW.out.st.is.sl, HW.out.st.len]
      obtain ⟨j0, hJ⟩ : ∃ j0, (p' = p ∧ h' = h ∧ cf' = cf) ∨ (j0 < T.length ∧ ii = (j0 : Int) ∧ ∀ P, CPInv T.length ((n0 : Int) % 4) (cct h.ar.W) (effL h.S cf) (effE h.S cf) P →
          CPInv T.length ((n0 : Int) % 4) (cct h'.ar.W) (effL h'.S cf') (effE h'.S cf') (cP2 P p.pc p'.pc j0 fun a => (sv h'.S a).pc) ∧
          (p.pc < 10 → p'.pc = 10 → ∀ k, k < T.length → k ≠ j0 → 3 < (sv h'.S k).pc → (sv h'.S k).pc < 10 → cP2 P p.pc p'.pc j0 (fun a => (sv h'.S a).pc) k ≤ T.length - 1 + T.length * ((n0 : Int) % 4))) := by
        rcases H4.out.2 with ⟨e1, e2⟩ | ⟨j, q', hj, hI, hS, _, hA⟩
        · exact ⟨0, .inl ⟨by rw [HP'.out, HP.out, e1], e1, e2⟩⟩
        · have e1 : p = sv h.S j := by rw [HP.out, hI]; exact getS_nat (by omega)
          have e2 : p' = q' := by
            rw [HP'.out, hI, getS_nat (by omega), hS]
            exact sv_eq (by omega)
          exact ⟨j, .inr ⟨hj, hI, by rw [e1, e2]; exact hA⟩⟩
      have HJ := Lib.hid hJ
      clear hJ hSl0
      obtain ⟨b3, hb3⟩ : ∃ b, b = decide (p.pc = 3 ∧ p'.pc ≠ 3) := ⟨_, rfl⟩
      have HB3 := Lib.hid hb3
      clear hb3
      go_upto_region 14 with fail
      go_cut [70] (fun s70 wy => s70 = .bool b3 ∧ wy = w5)
      case first =>
        by_cases c4 : p.pc = 3
        · have t4 : (p.pc == 3) = true := by simpa using c4
          by_cases c5 : p'.pc = 3
          · have t5 : (p'.pc != 3) = false := by simpa using c5
            have HE : Hid (false = b3) := Lib.hid (by rw [HB3.out]; simp [c5])
            clear c4 c5
            go_wp2
            go_meet
            case rel => exact ⟨congrArg Value.bool HE.out, rfl⟩
          · have t5 : (p'.pc != 3) = true := by simpa using c5
            have HE : Hid (true = b3) := Lib.hid (by rw [HB3.out]; simp [c4, c5])
            clear c4 c5
            go_wp2
            go_meet
            case rel => exact ⟨congrArg Value.bool HE.out, rfl⟩
        · have t4 : (p.pc == 3) = false := by simpa using c4
          have HE : Hid (false = b3) := Lib.hid (by rw [HB3.out]; simp [c4])
          clear c4
          go_wp2
          go_meet
          case rel => exact ⟨congrArg Value.bool HE.out, rfl⟩
      case rest =>
      obtain ⟨rfl, rfl⟩ := hcut
      go_upto_if 70 with fail
      go_cut [73] (fun s73 wy => ∃ L', PcW w0 wy c cap ((n0 : Int) % 4) P T h' (k + 1) cf' pb L' ∧ CF T.length L' (cP1 Pf p.pc p'.pc j0))
      case first =>
        cases b3
        · have HN := Lib.hid (show ¬ (p.pc = 3 ∧ p'.pc ≠ 3) from of_decide_eq_false HB3.out.symm)
          go_wp2
          go_meet
          case rel => exact ⟨L, H5.out, HFI.out.1.p0 HN.out⟩
        · obtain ⟨c4, c5⟩ : p.pc = 3 ∧ p'.pc ≠ 3 := of_decide_eq_true HB3.out.symm
          obtain ⟨hj, hI⟩ : j0 < T.length ∧ ii = (j0 : Int) := by
            rcases HJ.out with ⟨e1, _⟩ | ⟨hj, hI, _⟩
            · rw [e1] at c5; exact absurd c4 c5
            · exact ⟨hj, hI⟩
          have hLl : L.length = T.length := HFI.out.1.1
          have c0 := H5.out.at (i := j0) (by omega)
          have z0 := H5.out.blk.free j0
          have HCC := Lib.hid (And.intro c4 c5)
          have hj2 : (j0 : Int) < (T.length : Int) := by omega
          subst hI
          clear c4 c5 hLl
          go_wp2
          go_meet
          case rel => exact ⟨_, H5.out.put j0 0, HFI.out.1.p1 hj HCC.out⟩
      case rest =>
        obtain ⟨L', hW, hF⟩ := hcut
        obtain ⟨wy, rfl⟩ : ∃ wy : World, wy = wc := ⟨_, rfl⟩
        have H8 := Lib.hid (And.intro hW hF)
        clear hW hF
        by_cases c9 : p.pc < 10 ∧ p'.pc = 10
        · obtain ⟨c9a, c9b⟩ := c9
          have t9 : decide (10 ≤ p.pc) = false := decide_eq_false (by omega)
          have t10 : (p'.pc != 10) = false := by simpa using c9b
          obtain ⟨hj, hI, hA⟩ : j0 < T.length ∧ ii = (j0 : Int) ∧ ∀ P, CPInv T.length ((n0 : Int) % 4) (cct h.ar.W) (effL h.S cf) (effE h.S cf) P →
          CPInv T.length ((n0 : Int) % 4) (cct h'.ar.W) (effL h'.S cf') (effE h'.S cf') (cP2 P p.pc p'.pc j0 fun a => (sv h'.S a).pc) ∧
          (p.pc < 10 → p'.pc = 10 → ∀ k, k < T.length → k ≠ j0 → 3 < (sv h'.S k).pc → (sv h'.S k).pc < 10 → cP2 P p.pc p'.pc j0 (fun a => (sv h'.S a).pc) k ≤ T.length - 1 + T.length * ((n0 : Int) % 4)) := by
            rcases HJ.out with ⟨e1, _⟩ | e
            · rw [e1] at c9b; omega
            · exact e
          have HAct := hA Pf HFI.out.2
          have HAC := Lib.hid (show _ ∧ ∀ k, k < T.length → k ≠ j0 → 3 < (sv h'.S k).pc → (sv h'.S k).pc < 10 → cP1 Pf p.pc p'.pc j0 k + 1 ≤ mv from ⟨HAct.1, fun k hk hkj h3 h10 => by
            have := HAct.2 c9a c9b k hk hkj h3 h10
            unfold cP2 at this
            rw [if_pos ⟨⟨c9a, c9b⟩, hkj, h3, h10⟩] at this
            rw [HMV.out]; exact this⟩)
          have HCC := Lib.hid (And.intro c9a c9b)
          obtain ⟨Q1, hQ1⟩ : ∃ x, x = cP1 Pf p.pc p'.pc j0 := ⟨_, rfl⟩
          rw [← hQ1] at H8 HAC
          have HQ1 := Lib.hid hQ1
          subst hI
          clear c9a c9b HAct hA hQ1
          go_wp2
          go_loopw [15] (fun kk wr => ∃ (m : Nat) (L2 : List Int), kk = .int .i64 m ∧ m ≤ T.length ∧ PcW w0 wr c cap ((n0 : Int) % 4) P T h' (k + 1) cf' pb L2 ∧ CF T.length L2 (CM Q1 j0 (fun a => (sv h'.S a).pc) m)) (fun kk _ => T.length - (intOf kk).toNat)
          case atStart => exact ⟨0, L', rfl, by omega, H8.out.1, H8.out.2.m0⟩
          case round =>
            obtain ⟨m, L2, rfl, hm, hW, hF⟩ := hrel
            obtain ⟨wi, rfl⟩ : ∃ wi : World, wi = wr := ⟨_, rfl⟩
            have HWi := Lib.hid (And.intro hW hF)
            clear hW hF
            have y2 := HCT.out _ HWi.out.1.st.bel
            by_cases hlt2 : m < T.length
            · obtain ⟨pm, hpm⟩ : ∃ x, x = getS h'.S m := ⟨_, rfl⟩
              have HPM := Lib.hid (show getS h'.S m = pm ∧ sv h'.S m = pm from ⟨hpm.symm, by rw [hpm, getS_nat (by omega)]⟩)
              clear hpm
              go_wp2_with fail
              refine (HWi.out.1.st.spot m).mono ?_
              rintro en wm ⟨rfl, bm⟩
              rw [HPM.out.1]
              unfold spotV
              have H9 := Lib.hid (And.intro (HWi.out.1.below bm) HWi.out.2)
              clear bm y2
              obtain ⟨bb, hbb⟩ : ∃ b, b = decide (m ≠ j0 ∧ 3 < pm.pc ∧ pm.pc < 10) := ⟨_, rfl⟩
              have HBB := Lib.hid hbb
              clear hbb
              go_upto_region 21 with fail
              go_cut [101] (fun s101 wy => s101 = .bool bb ∧ wy = wm)
              case first =>
                by_cases d1 : m = j0
                · have t1 : ((m : Int) != (j0 : Int)) = false := by simp [d1]
                  have HE : Hid (false = bb) := Lib.hid (by rw [HBB.out]; simp [d1])
                  clear d1
                  go_wp2
                  go_meet
                  case rel => exact ⟨congrArg Value.bool HE.out, rfl⟩
                · have t1 : ((m : Int) != (j0 : Int)) = true := by simp; omega
                  by_cases d2 : 3 < pm.pc
                  · have t2 : decide (3 < pm.pc) = true := decide_eq_true d2
                    have HE : Hid (decide (pm.pc < 10) = bb) := Lib.hid (by rw [HBB.out]; simp [d1, d2])
                    clear d1 d2
                    go_wp2
                    go_meet
                    case rel => exact ⟨congrArg Value.bool HE.out, rfl⟩
                  · have t2 : decide (3 < pm.pc) = false := decide_eq_false d2
                    have HE : Hid (false = bb) := Lib.hid (by rw [HBB.out]; simp [d2])
                    clear d1 d2
                    go_wp2
                    go_meet
                    case rel => exact ⟨congrArg Value.bool HE.out, rfl⟩
              case rest =>
                obtain ⟨rfl, rfl⟩ := hcut
                obtain ⟨wm, rfl⟩ : ∃ x : World, x = wc := ⟨_, rfl⟩
                cases bb
                · have HN := Lib.hid (show ¬ (m ≠ j0 ∧ 3 < (sv h'.S m).pc ∧ (sv h'.S m).pc < 10) from by rw [HPM.out.2]; exact of_decide_eq_false HBB.out.symm)
                  go_wp2
                  go_roundw
                  case rel => exact ⟨m + 1, L2, by go_num, by omega, H9.out.1, H9.out.2.m2 HN.out⟩
                  case measure => simp [intOf]; omega
                · have hcnd : m ≠ j0 ∧ 3 < (sv h'.S m).pc ∧ (sv h'.S m).pc < 10 := by rw [HPM.out.2]; exact of_decide_eq_true HBB.out.symm
                  have hle := HAC.out.2 m hlt2 hcnd.1 hcnd.2.1 hcnd.2.2
                  have hv : L2.getD m 0 = Q1 m := by rw [H9.out.2.2 m hlt2]; exact CM.at_
                  obtain ⟨qv, hqv⟩ : ∃ x, x = Q1 m := ⟨_, rfl⟩
                  rw [← hqv] at hle hv
                  have hLl : L2.length = T.length := H9.out.2.1
                  have c0 := H9.out.1.at (i := m) (by omega)
                  rw [hv] at c0
                  have z0 := H9.out.1.blk.free m
                  have y2 := HCT.out _ H9.out.1.st.bel
                  have HRR := Lib.hid (show PcW w0 (wm.setCell ⟨pb, m, none⟩ (.int .i64 (qv + 1))) c cap ((n0 : Int) % 4) P T h' (k + 1) cf' pb (L2.set m (qv + 1)) ∧ CF T.length (L2.set m (qv + 1)) (CM Q1 j0 (fun a => (sv h'.S a).pc) (m + 1)) from ⟨H9.out.1.put _ _, by rw [hqv]; exact H9.out.2.m1 hlt2 hcnd⟩)
                  have hq0 : 0 ≤ qv ∧ qv ≤ 1000 := by
                    have e0 := (HFI.out.2 m hlt2).1
                    have e1 : 0 ≤ cP1 Pf p.pc p'.pc j0 m := by unfold cP1; split <;> omega
                    have e2 : mv ≤ 1000 := by
                      have e3 : (n0 : Int) % 4 = 0 ∨ (n0 : Int) % 4 = 1 ∨ (n0 : Int) % 4 = 2 ∨ (n0 : Int) % 4 = 3 := by omega
                      rw [HMV.out]
                      rcases e3 with e | e | e | e <;> rw [e] <;> omega
                    rw [hqv, HQ1.out]
                    rw [hqv, HQ1.out] at hle
                    omega
                  have hpb : w0.heap.size ≤ pb := H9.out.1.nw
                  have hne : ¬ (w.heap.size = pb) := by omega
                  have hne' : ¬ (pb = w.heap.size) := by omega
                  obtain ⟨hqa, hqb⟩ := hq0
                  have x1 : IntKind.i64.wrap (qv + 1) = qv + 1 := IntWalk.i64_in _ (by omega)
                  have g1 : decide (mv < qv + 1) = false := decide_eq_false (by omega)
                  have hmi : (m : Int) < (T.length : Int) := by omega
                  clear hcnd hle hv hqv hLl
                  go_wp2
                  go_quiet ((go_at_call 22; exact quiet_left (HMo.out _)))
                  go_wp2
                  go_roundw
                  case rel => exact ⟨m + 1, _, by go_num, by omega, HRR.out.1.below (Qt.below ⟨_, rfl⟩ _), HRR.out.2⟩
                  case measure => simp [intOf]; omega
            · obtain rfl : m = T.length := by omega
              have HFin := Lib.hid (show CF T.length L2 (cP2 Pf p.pc p'.pc j0 fun a => (sv h'.S a).pc) from by have := HWi.out.2; rw [HQ1.out] at this; exact this.done HCC.out)
              go_wp2
              go_roundw
              case rel => exact ⟨k + 1, h', cf', L2, _, by go_num, by omega, HWi.out.1, HFin.out, HAC.out.1⟩
              case measure => simp [intOf]; omega
        · have HC9 := Lib.hid c9
          have HPN := Lib.hid (show CPInv T.length ((n0 : Int) % 4) (cct h'.ar.W) (effL h'.S cf') (effE h'.S cf') (cP2 Pf p.pc p'.pc j0 fun a => (sv h'.S a).pc) from by
            rcases HJ.out with ⟨e1, e2, e3⟩ | ⟨hj, hI, hA⟩
            · rw [e1, e2, e3, cP2_same (fun h => h.2 h.1) (by omega)]
              exact HFI.out.2
            · exact (hA Pf HFI.out.2).1)
          have HFN := Lib.hid (show CF T.length L' (cP2 Pf p.pc p'.pc j0 fun a => (sv h'.S a).pc) from H8.out.2.none_ HC9.out)
          by_cases c10 : 10 ≤ p.pc
          · have t9 : decide (10 ≤ p.pc) = true := decide_eq_true c10
            clear c9 c10
            go_wp2
            go_roundw
            case rel => exact ⟨k + 1, h', cf', L', _, by go_num, by omega, H8.out.1, HFN.out, HPN.out⟩
            case measure => simp [intOf]; omega
          · have t9 : decide (10 ≤ p.pc) = false := decide_eq_false c10
            have t10 : (p'.pc != 10) = true := by simp; omega
            clear c9 c10
            go_wp2
            go_roundw
            case rel => exact ⟨k + 1, h', cf', L', _, by go_num, by omega, H8.out.1, HFN.out, HPN.out⟩
            case measure => simp [intOf]; omega
    · obtain rfl : k = ls.length := by omega
      go_wp2_with fail
      refine (awake31 _).mono ?_
      rintro ea2 wa2 ⟨rfl, ba2⟩
      have HB2 := Lib.hid (HB0.out.trans ((HW.out.st.bel.trans (ba2.mono HW.out.st.bel.size)).mono hw0s))
      clear ba2
      go_wp2
      go_ret
      exact ⟨rfl, HB2.out⟩
end Go.Proofs.YtkdaiomjbkpedaaGreat
end
