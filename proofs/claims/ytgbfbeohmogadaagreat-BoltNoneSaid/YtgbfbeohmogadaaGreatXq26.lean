/- Running closed code: atomic loads and stores; sync.Once. -/
import Derived.Test.YtgbfbeohmogadaaGreatXq25
import Derived.Laws.LoneSync
namespace Go.Proofs.YtgbfbeohmogadaaGreat
open Go.RowKit
set_option linter.unusedVariables false

theorem mv_upd {nx : Nat} {r : Nm} {H : Hp} {w w' : World} (h : RelH r H w) {k : Nat} {B B' : Bk} (hk : H.get k = some B) {b sz : Nat} (rk : r k = some (b, sz)) (hB : BR r w' B' b sz)
    (ho : ∀ c, c ≠ b → w'.heap[c]? = w.heap[c]?) (h1 : w'.os = w.os) (h2 : w'.tape = w.tape) (h3 : w'.output = w.output) (h4 : w'.heap.size = w.heap.size) : Mv nx r H w nx r (H.set k B') w' := by
  refine ⟨Nm.le_refl _, Nat.le_refl _, fun _ _ => rfl, h.upd hk rk hB ho, h1, h2, h3, by omega, fun c hc hno => ?_, fun j D c s hj rj => ?_⟩
  · refine ho c ?_
    rintro rfl
    exact hno k B sz hk rk
  · rw [Tr.get_set] at hj
    by_cases e : j = k
    · subst e; exact .inr ⟨j, B, s, hk, rj⟩
    · rw [if_neg e] at hj; exact .inr ⟨j, D, s, hj, rj⟩
theorem BR.cell {r : Nm} {w : World} {B : Bk} {b sz : Nat} (h : BR r w B b sz) {o : Nat} (ho : o < B.n) : ∃ v, w.cell? ⟨b, o, none⟩ = some v ∧ CR r (B.cell o) v := by
  obtain ⟨cs, hg, hsz, hn, hc⟩ := h.ex
  obtain ⟨v, hv, hr⟩ := hc o ho
  exact ⟨v, by rw [cell_of_row w b o cs B.e (0, 0) hg]; exact hv, hr⟩
theorem BR.frozen {r : Nm} {w : World} {B : Bk} {b sz : Nat} (h : BR r w B b sz) (o : Nat) : w.frozen? ⟨b, o, none⟩ = false := by
  obtain ⟨cs, hg, _⟩ := h.ex
  simp [World.frozen?, hg]
theorem BR.int {r : Nm} {w : World} {B : Bk} {b sz : Nat} (h : BR r w B b sz) {o : Nat} (ho : o < B.n) {k : IntKind} {x : Int} (e : B.cell o = .i k x) : w.cell? ⟨b, o, none⟩ = some (.int k x) := by
  obtain ⟨v, hv, hr⟩ := h.cell ho
  rw [e] at hr
  cases hr
  exact hv
theorem setCell_old (w : World) (b o : Nat) (v : Value) (c : Nat) (h : c ≠ b) : (w.setCell ⟨b, o, none⟩ v).heap[c]? = w.heap[c]? := by
  simp [World.setCell, Array.getElem?_modify]
  intro e; exact absurd e.symm h
theorem BR.setCell {r : Nm} {w : World} {B : Bk} {b sz : Nat} (h : BR r w B b sz) {o : Nat} (ho : o < B.n) {c : C} {v : Value} (hv : CR r c v) : BR r (w.setCell ⟨b, o, none⟩ v) (B.put o [c]) b sz := by
  obtain ⟨cs, hg, hsz, hn, hc⟩ := h.ex
  refine ⟨cs.setIfInBounds o v, ?_, by simpa using hsz, hn, fun j hj => ?_⟩
  · simp [World.setCell, Array.getElem?_modify, hg]
    rfl
  · rw [Bk.put_cell]
    by_cases e : j = o
    · subst e
      refine ⟨v, by rw [Array.getElem?_setIfInBounds_self_of_lt (by omega)], ?_⟩
      rw [if_pos ⟨Nat.le_refl _, Nat.lt_succ_self _⟩, Nat.sub_self]
      exact hv
    · obtain ⟨u, hu, hr⟩ := hc j hj
      refine ⟨u, by rw [Array.getElem?_setIfInBounds_ne (Ne.symm e)]; exact hu, ?_⟩
      rw [if_neg (by rw [List.length_singleton]; omega)]
      exact hr
theorem mv_cell {nx : Nat} {r : Nm} {H : Hp} {w : World} (h : RelH r H w) {k : Nat} {B : Bk} (hk : H.get k = some B) {b sz : Nat} (rk : r k = some (b, sz)) {o : Nat} (ho : o < B.n) {c : C} {v : Value} (hv : CR r c v) :
    Mv nx r H w nx r (H.set k (B.put o [c])) (w.setCell ⟨b, o, none⟩ v) := by
  obtain ⟨b', sz', rk', hB⟩ := h.at_ k B hk
  rw [rk] at rk'
  injection rk' with rk'
  injection rk' with e1 e2
  subst e1 e2
  exact mv_upd h hk rk (hB.setCell ho hv) (fun c hc => setCell_old w b o v c hc) rfl rfl rfl (by simp [World.setCell])
/-! ### Atomic loads and stores -/
def extL (f0 : FuncId) (k : IntKind) : ExtF := fun f xs H => if f = f0 then match xs with
  | [.w (.c (.p (some (n, o))))] => match H.get n with
    | some B => if o < B.n then match B.cell o with
      | .i j x => if j = k then some (.w (.c (.i k x)), H) else none
      | _ => none
      else none
    | none => none
  | _ => none
  else none
def extW (f0 : FuncId) (k : IntKind) : ExtF := fun f xs H => if f = f0 then match xs with
  | [.w (.c (.p (some (n, o)))), .w (.c (.i j x))] => if j = k then match H.get n with
    | some B => if o < B.n then some (.t [], H.set n (B.put o [.i k x])) else none
    | none => none
    else none
  | _ => none
  else none
def extOr (a b : ExtF) : ExtF := fun f xs H => match a f xs H with
  | some z => some z
  | none => b f xs H
theorem extOr_ok {P : Program} {a b : ExtF} (ha : ExtS P a) (hb : ExtS P b) : ExtS P (extOr a b) := by
  intro f xs H v H' h
  unfold extOr at h
  split at h
  · rename_i z hz
    injection h with h
    subst h
    exact ha f xs H v H' hz
  · exact hb f xs H v H' h
theorem extL_ok {P : Program} {f0 : FuncId} {k : IntKind} (hl : ∀ (a : Addr) (x : Int) (w : World), w.cell? a = some (.int k x) → (callFunc f0 #[.pointer (some a)]).run P w = .ok (.value (.int k x)) w) : ExtS P (extL f0 k) := by
  intro f xs H v H' h r w us hu hH
  unfold extL at h
  split at h
  case isFalse => cases h
  rename_i hf
  subst hf
  split at h
  case h_2 => cases h
  rename_i n o
  split at h
  case h_2 => cases h
  rename_i B hB
  split at h
  case isFalse => cases h
  rename_i ho
  split at h
  case h_2 => cases h
  rename_i j x hc
  split at h
  case isFalse => cases h
  rename_i hj
  subst hj
  injection h with h
  injection h with h1 h2
  subst h1 h2
  cases hu with | cons hx ht => cases ht with | nil => cases hx with | w hx => cases hx with | c hx => cases hx with | p rk =>
  obtain ⟨b, sz, rk', hBR⟩ := hH.at_ n B hB
  rw [rk] at rk'
  injection rk' with rk'
  injection rk' with e1 e2
  subst e1 e2
  exact ⟨_, w, hl _ x w (hBR.int ho hc), .w (.c (.i _ _)), fun nx => Mv.refl hH⟩
theorem extW_ok {P : Program} {f0 : FuncId} {k : IntKind} (hl : ∀ (a : Addr) (u : Value) (y : Int) (w : World), w.cell? a = some u → w.frozen? a = false → (callFunc f0 #[.pointer (some a), .int k y]).run P w = .ok (.value (.tuple #[])) (w.setCell a (.int k y))) : ExtS P (extW f0 k) := by
  intro f xs H v H' h r w us hu hH
  unfold extW at h
  split at h
  case isFalse => cases h
  rename_i hf
  subst hf
  split at h
  case h_2 => cases h
  rename_i n o j x
  split at h
  case isFalse => cases h
  rename_i hj
  subst hj
  split at h
  case h_2 => cases h
  rename_i B hB
  split at h
  case isFalse => cases h
  rename_i ho
  injection h with h
  injection h with h1 h2
  subst h1 h2
  cases hu with | cons hx ht => cases ht with | cons hy ht => cases ht with | nil => cases hx with | w hx => cases hx with | c hx => cases hx with | p rk =>
  cases hy with | w hy => cases hy with | c hy => cases hy with | i =>
  obtain ⟨b, sz, rk', hBR⟩ := hH.at_ n B hB
  rw [rk] at rk'
  injection rk' with rk'
  injection rk' with e1 e2
  subst e1 e2
  obtain ⟨u, hcu, _⟩ := hBR.cell ho
  exact ⟨_, _, hl _ u x w hcu (hBR.frozen o), .t .nil, fun nx => mv_cell hH hB rk ho (.i _ _)⟩
/-! ### sync.Once -/
def onceEndW (b off : Nat) (w2 : World) : World := (w2.drew.setCell ⟨b, off, none⟩ (.int .u32 1)).setCell ⟨b, off + 1, none⟩ (.int .i32 0)
structure OnceH (b off : Nat) (w : World) : Prop where
  c0 : w.cell? ⟨b, off, none⟩ = some (.int .u32 0)
  c1 : w.cell? ⟨b, off + 1, none⟩ = some (.int .i32 1)
  f0 : w.frozen? ⟨b, off, none⟩ = false
  f1 : w.frozen? ⟨b, off + 1, none⟩ = false
/-- what doSlow does, given what the function does -/
def OnceS (P : Program) (fSlow fn : FuncId) : Prop := ∀ (b off : Nat) (x : Value) (w : World) (R : World → Prop), w.cell? ⟨b, off, none⟩ = some (.int .u32 0) → w.cell? ⟨b, off + 1, none⟩ = some (.int .i32 0) →
  w.frozen? ⟨b, off, none⟩ = false → w.frozen? ⟨b, off + 1, none⟩ = false →
  Calls P fn #[x] (w.setCell ⟨b, off + 1, none⟩ (.int .i32 1)) (fun e w2 => e = .returned (.tuple #[]) ∧ OnceH b off w2 ∧ R w2) →
  Calls P fSlow #[.pointer (some ⟨b, off, none⟩), .func (.func fn) #[x] #[]] w fun e w' => e = .returned (.tuple #[]) ∧ ∃ w2, R w2 ∧ w' = onceEndW b off w2
def isI : C → IntKind → Int → Bool
  | .i j x, k, y => decide (j = k) && x == y
  | _, _, _ => false
theorem isI_ok {c : C} {k : IntKind} {y : Int} (h : isI c k y = true) : c = .i k y := by
  cases c <;> simp [isI] at h
  obtain ⟨rfl, rfl⟩ := h
  rfl
def spOnce (fSlow fn : FuncId) : SpF := fun call f xs H nx => if f = fSlow then match xs with
  | [.w (.c (.p (some (k, o)))), .w (.c (.f g [a] []))] => if g = fn then match H.get k with
    | some B => if Nat.blt (o + 1) B.n && isI (B.cell o) .u32 0 && isI (B.cell (o + 1)) .i32 0 then
        match call fn [.w (.c (.p (some a)))] (H.set k (B.put (o + 1) [.i .i32 1])) nx with
        | some (.t [], H1, nx1) => match H1.get k with
          | some B1 => if Nat.blt (o + 1) B1.n && isI (B1.cell o) .u32 0 && isI (B1.cell (o + 1)) .i32 1 then
              some (.t [], (H1.set k (B1.put o [.i .u32 1])).set k ((B1.put o [.i .u32 1]).put (o + 1) [.i .i32 0]), nx1)
            else none
          | none => none
        | _ => none
      else none
    | none => none
    else none
  | _ => none
  else none
theorem spOnce_ok {P : Program} {fSlow fn : FuncId} (hS : OnceS P fSlow fn) : SpS P (spOnce fSlow fn) := by
  intro call hcall f xs H nx v H' nx' h r w us hu hH hf
  unfold spOnce at h
  split at h
  case isFalse => cases h
  rename_i hff
  subst hff
  split at h
  case h_2 => cases h
  rename_i k o g a
  split at h
  case isFalse => cases h
  rename_i hg
  subst hg
  split at h
  case h_2 => cases h
  rename_i B hB
  split at h
  case isFalse => cases h
  rename_i hc
  simp only [Bool.and_eq_true] at hc
  obtain ⟨⟨hn, hc0⟩, hc1⟩ := hc
  have hn := blt_of hn
  split at h
  case h_2 => cases h
  rename_i H1 nx1 hcl
  split at h
  case h_2 => cases h
  rename_i B1 hB1
  split at h
  case isFalse => cases h
  rename_i hd
  simp only [Bool.and_eq_true] at hd
  obtain ⟨⟨hm, hd0⟩, hd1⟩ := hd
  have hm := blt_of hm
  injection h with h
  injection h with h1 h2
  injection h2 with h2 h3
  subst h1 h2 h3
  cases hu with | cons hx ht => cases ht with | cons hy ht => cases ht with | nil => cases hx with | w hx => cases hx with | c hx => cases hx with | p rk =>
  rename_i b sz
  cases hy with | w hy => cases hy with | c hy => cases hy with | f _ ha hcp =>
  cases hcp
  cases ha with | cons rka ha =>
  cases ha with | nil =>
  rename_i ka oa ba sza
  obtain ⟨b', sz', rk', hBR⟩ := hH.at_ k B hB
  rw [rk] at rk'
  injection rk' with rk'
  injection rk' with e1 e2
  subst e1 e2
  have m1 : Mv nx r H w nx r (H.set k (B.put (o + 1) [.i .i32 1])) (w.setCell ⟨b, o + 1, none⟩ (.int .i32 1)) := mv_cell hH hB rk hn (.i _ _)
  have hfind := hcall _ _ _ _ _ _ _ hcl r (w.setCell ⟨b, o + 1, none⟩ (.int .i32 1)) [ptrOf ba oa] (.cons (.w (.c (.p rka))) .nil) m1.rel hf
  have hres := hS b o (ptrOf ba oa) w (fun w2 => ∃ r1, Mv nx r (H.set k (B.put (o + 1) [.i .i32 1])) (w.setCell ⟨b, o + 1, none⟩ (.int .i32 1)) nx1 r1 H1 w2 ∧ fresh r1 nx1)
    (hBR.int (by omega) (isI_ok hc0)) (hBR.int hn (isI_ok hc1)) (hBR.frozen o) (hBR.frozen (o + 1)) (hfind.mono fun e w2 ⟨r1, u, he, hv, hmv, hfr⟩ => by
      cases hv with | t hv =>
      cases hv with | nil =>
      have rk1 := hmv.le _ _ rk
      obtain ⟨b', sz', rk', hBR1⟩ := hmv.rel.at_ k B1 hB1
      rw [rk1] at rk'
      injection rk' with rk'
      injection rk' with e1 e2
      subst e1 e2
      exact ⟨he, ⟨hBR1.int (by omega) (isI_ok hd0), hBR1.int hm (isI_ok hd1), hBR1.frozen o, hBR1.frozen (o + 1)⟩, r1, hmv, hfr⟩)
  refine hres.mono fun e w' ⟨he, w2, ⟨r1, hmv, hfr⟩, hw'⟩ => ?_
  subst hw'
  have rk1 := hmv.le _ _ rk
  have m2 : Mv nx1 r1 H1 w2.drew nx1 r1 (H1.set k (B1.put o [.i .u32 1])) (w2.drew.setCell ⟨b, o, none⟩ (.int .u32 1)) := mv_cell hmv.drew.rel hB1 rk1 (by omega) (.i _ _)
  have m3 : Mv nx1 r1 (H1.set k (B1.put o [.i .u32 1])) (w2.drew.setCell ⟨b, o, none⟩ (.int .u32 1)) nx1 r1 ((H1.set k (B1.put o [.i .u32 1])).set k ((B1.put o [.i .u32 1]).put (o + 1) [.i .i32 0])) (onceEndW b o w2) :=
    mv_cell m2.rel (by rw [Tr.get_set, if_pos rfl]) rk1 (by show o + 1 < B1.n; exact hm) (.i _ _)
  exact ⟨r1, _, he, .t .nil, ((m1.trans hmv).trans m2.from_drew).trans m3, hfr⟩
end Go.Proofs.YtgbfbeohmogadaaGreat
