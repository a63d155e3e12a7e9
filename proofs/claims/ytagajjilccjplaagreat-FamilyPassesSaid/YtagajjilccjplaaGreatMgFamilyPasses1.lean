/- Joined: JfP, Pl, FlP, FlN, Co1, Base, Turn, Ar1, Ar2, Ar2S, Ar2C. -/
import Derived.Test.YtagajjilccjplaaGreatRows
import Derived.WalkKit
import Derived.ProofKit
import Derived.ChangeOld
import GoSem.Core.View
import Derived.IntWalk
import Derived.WalkSpells
import Derived.WalkLawsBesides
import Derived.Below
import Derived.Outline
import Derived.Lib.Hide
import Derived.Deep.QuietTactic
import Derived.BigQuiet
import Derived.Deep.Draws
import Derived.Laws.LoneSync
import Derived.Laws.OwnMore
import Derived.OwnWalk
import Derived.RegionCalls
import Derived.Laws.Externs
section
set_option linter.unusedVariables false
set_option linter.unusedSimpArgs false
/- Closed facts of the whole cut, once for all laws of a great seat. -/
namespace Go.Proofs.YtagajjilccjplaaGreat
open Go.ChangeShapes Go.WideShapes Go.ChangeAt Go.RowKit
theorem laidOutP : laidOutB Tryz.pinned.checked.prog = true := by kernel_rfl
theorem mapsRowedP : mapsRowed Tryz.pinned.checked.prog = true := by kernel_rfl
theorem stopsHeardP : (Tryz.pinned.checked.prog).stopsHeard = true := by kernel_rfl
theorem mayEnterP : (Tryz.pinned.checked.prog).mayEnter = true := by kernel_rfl
end Go.Proofs.YtagajjilccjplaaGreat
end
section
set_option linter.unusedVariables false
set_option linter.unusedSimpArgs false
/- The arena and spots as plain data. No program in sight. -/
namespace Go.Proofs.YtagajjilccjplaaGreat
open Go

/-- an arena: the words that were taken, the room, how many ops, the last one -/
structure Ar where
  W : List Int
  room : Nat
  ops : Nat
  k : Int
  at_ : Int
  wr : Bool
def inR (W : List Int) (x : Int) : Bool := decide (1 ≤ x ∧ x ≤ W.length)
def ldW (W : List Int) (x : Int) : Int := if inR W x then W.getD (x.toNat - 1) 0 else 0
def stW (W : List Int) (x v : Int) : List Int := if inR W x then W.set (x.toNat - 1) v else W
def noteA (s : Ar) (k x : Int) (wr : Bool) : Ar := if inR s.W x then { s with ops := s.ops + 1, k := k, at_ := x, wr := wr } else s
def wrA (s : Ar) (x v : Int) : Ar := { s with W := stW s.W x v }
def loadA (s : Ar) (x : Int) : Ar := noteA s 1 x false
def storeA (s : Ar) (x v : Int) : Ar := wrA (noteA s 2 x true) x v
def swapA (s : Ar) (x v : Int) : Ar := wrA (noteA s 3 x true) x v
def casB (s : Ar) (x old : Int) : Bool := inR s.W x && decide (ldW s.W x = old)
def casA (s : Ar) (x old v : Int) : Ar := if casB s x old then wrA (noteA s 4 x true) x v else noteA s 4 x false
def addA (s : Ar) (x d : Int) : Ar := wrA (noteA s 5 x true) x (IntKind.i64.wrap (ldW s.W x + d))

theorem stW_len (W : List Int) (x v : Int) : (stW W x v).length = W.length := by unfold stW; split <;> simp
theorem inR_true {W : List Int} {x : Int} : inR W x = true ↔ 1 ≤ x ∧ x ≤ W.length := by unfold inR; exact decide_eq_true_iff
theorem inR_false {W : List Int} {x : Int} : inR W x = false ↔ ¬ (1 ≤ x ∧ x ≤ W.length) := by unfold inR; exact decide_eq_false_iff_not

structure Sp where
  pc : Int
  a : Int
  b : Int
  c : Int
def Sp.zero : Sp := ⟨0, 0, 0, 0⟩
def okI (S : List Sp) (i : Int) : Prop := 0 ≤ i ∧ i < S.length
instance (S : List Sp) (i : Int) : Decidable (okI S i) := by unfold okI; infer_instance
def sv (S : List Sp) (j : Nat) : Sp := S.getD j Sp.zero
theorem getD_set {α : Type} (l : List α) (i j : Nat) (a d : α) : (l.set i a).getD j d = if i = j ∧ i < l.length then a else l.getD j d := by
  rw [List.getD_eq_getElem?_getD, List.getD_eq_getElem?_getD, List.getElem?_set]
  by_cases h : i = j
  · subst h
    by_cases h2 : i < l.length
    · simp [h2]
    · simp [h2]
  · simp [h]
theorem sv_set (S : List Sp) (i j : Nat) (p : Sp) : sv (S.set i p) j = if i = j ∧ i < S.length then p else sv S j := getD_set _ _ _ _ _
theorem noteA_W (s : Ar) (k x : Int) (wr : Bool) : (noteA s k x wr).W = s.W := by unfold noteA; split <;> rfl
theorem noteA_out (s : Ar) (k x : Int) (wr : Bool) (h : inR s.W x = false) : noteA s k x wr = s := by unfold noteA; rw [h]; rfl
theorem wrA_out (s : Ar) (x v : Int) (h : inR s.W x = false) : wrA s x v = s := by unfold wrA stW; rw [h]; rfl
theorem ldW_in {W : List Int} {x : Int} (h : inR W x = true) : ldW W x = W.getD (x.toNat - 1) 0 := by unfold ldW; rw [if_pos h]
theorem ldW_out {W : List Int} {x : Int} (h : inR W x = false) : ldW W x = 0 := by unfold ldW; rw [h]; rfl
theorem wrA_W (s : Ar) (x v : Int) : (wrA s x v).W = stW s.W x v := rfl
theorem loadA_W (s : Ar) (x : Int) : (loadA s x).W = s.W := noteA_W _ _ _ _
theorem storeA_W (s : Ar) (x v : Int) : (storeA s x v).W = stW s.W x v := by unfold storeA; rw [wrA_W, noteA_W]
theorem swapA_W (s : Ar) (x v : Int) : (swapA s x v).W = stW s.W x v := by unfold swapA; rw [wrA_W, noteA_W]
theorem casA_W (s : Ar) (x o v : Int) : (casA s x o v).W = if casB s x o then stW s.W x v else s.W := by unfold casA; split <;> rename_i h <;> simp only [wrA_W, noteA_W]
theorem addA_W (s : Ar) (x d : Int) : (addA s x d).W = stW s.W x (IntKind.i64.wrap (ldW s.W x + d)) := by unfold addA; rw [wrA_W, noteA_W]
theorem noteA_ops (s : Ar) (k x : Int) (wr : Bool) : (noteA s k x wr).ops ≤ s.ops + 1 := by unfold noteA; split <;> simp
theorem loadA_ops (s : Ar) (x : Int) : (loadA s x).ops ≤ s.ops + 1 := noteA_ops _ _ _ _
theorem storeA_ops (s : Ar) (x v : Int) : (storeA s x v).ops ≤ s.ops + 1 := noteA_ops _ _ _ _
theorem swapA_ops (s : Ar) (x v : Int) : (swapA s x v).ops ≤ s.ops + 1 := noteA_ops _ _ _ _
theorem addA_ops (s : Ar) (x d : Int) : (addA s x d).ops ≤ s.ops + 1 := noteA_ops _ _ _ _
theorem casA_ops (s : Ar) (x o v : Int) : (casA s x o v).ops ≤ s.ops + 1 := by unfold casA; split <;> exact noteA_ops _ _ _ _
end Go.Proofs.YtagajjilccjplaaGreat
end
section
set_option linter.unusedVariables false
set_option linter.unusedSimpArgs false
/- Layers 15 to 20: the five flat locks as plain data: what a step of a slot does. No program in sight. -/
namespace Go.Proofs.YtagajjilccjplaaGreat
open Go

/-- the number of who stands behind a slot's number, and of what it waits for -/
def mNx (t x : Int) : Int := t + 2 * x - 1
def mWt (t x : Int) : Int := t + 2 * x
def pPl (t m k : Int) : Int := t + 1 + k % m
def tasK (t m : Int) (s : Ar) (i : Int) (p : Sp) : Ar × Sp :=
  if p.pc = 1 then (casA s t 0 (i + 1), if casB s t 0 then { p with pc := 10 } else { p with pc := 2, b := p.a, a := min (2 * p.a) m })
  else if p.pc = 2 then (s, { p with b := p.b - 1, pc := if p.b - 1 = 0 then 1 else 2 })
  else if p.pc = 11 then (storeA s t 0, { p with pc := 0 })
  else (s, p)
def tickK (t : Int) (s : Ar) (p : Sp) : Ar × Sp :=
  if p.pc = 1 then (addA s t 1, { p with a := ldW s.W t, pc := 2 })
  else if p.pc = 2 then (loadA s (t + 1), { p with pc := if ldW s.W (t + 1) = p.a then 10 else 2 })
  else if p.pc = 11 then (storeA s (t + 1) (p.a + 1), { p with pc := 0 })
  else (s, p)
def partK (t m : Int) (s : Ar) (p : Sp) : Ar × Sp :=
  if p.pc = 1 then (addA s t 1, { p with a := ldW s.W t, pc := 2 })
  else if p.pc = 2 then (loadA s (pPl t m p.a), { p with pc := if ldW s.W (pPl t m p.a) = p.a + 1 then 10 else 2 })
  else if p.pc = 11 then (storeA s (pPl t m (p.a + 1)) (p.a + 2), { p with pc := 0 })
  else (s, p)
def mcsIn (t : Int) (s : Ar) (x : Int) (p : Sp) : Ar × Sp :=
  if p.pc = 1 then (storeA s (mNx t x) 0, { p with pc := 2 })
  else if p.pc = 2 then (storeA s (mWt t x) 1, { p with pc := 3 })
  else if p.pc = 3 then (swapA s t x, { p with a := ldW s.W t, pc := if ldW s.W t = 0 then 10 else 4 })
  else if p.pc = 4 then (storeA s (mNx t p.a) x, { p with pc := 5 })
  else (loadA s (mWt t x), { p with pc := if ldW s.W (mWt t x) = 0 then 10 else 5 })
def mcsOut (t : Int) (s : Ar) (x : Int) (p : Sp) : Ar × Sp :=
  if p.pc = 12 then (casA s t x 0, { p with pc := if casB s t x then 0 else 13 })
  else if p.pc = 14 then (storeA s (mWt t p.a) 0, { p with pc := 0 })
  else (loadA s (mNx t x), { p with a := ldW s.W (mNx t x), pc := if ldW s.W (mNx t x) ≠ 0 then 14 else if p.pc = 11 then 12 else 13 })
def mcsK (t : Int) (s : Ar) (i : Int) (p : Sp) : Ar × Sp :=
  if 0 < p.pc ∧ p.pc < 10 then mcsIn t s (i + 1) p else if 10 < p.pc then mcsOut t s (i + 1) p else (s, p)
def clhK (t : Int) (s : Ar) (p : Sp) : Ar × Sp :=
  if p.pc = 1 then (storeA s (t + p.a) 1, { p with pc := 2 })
  else if p.pc = 2 then (swapA s t p.a, { p with b := ldW s.W t, pc := 3 })
  else if p.pc = 3 then (loadA s (t + p.b), { p with pc := if ldW s.W (t + p.b) = 0 then 10 else 3 })
  else if p.pc = 11 then (storeA s (t + p.a) 0, { p with a := p.b, pc := 0 })
  else (s, p)
/-- a step of a slot of a lock of kind k -/
def stepK (k : Nat) (t m : Int) (s : Ar) (i : Int) (p : Sp) : Ar × Sp :=
  if k = 1 then tasK t m s i p else if k = 2 then tickK t s p else if k = 3 then partK t m s p else if k = 4 then mcsK t s i p else clhK t s p
/-- whether a step is told to have come somewhere -/
def cameK (p p' : Sp) : Bool := decide ((p'.pc = 10 ∨ p'.pc = 0) ∧ p.pc ≠ 0 ∧ p.pc ≠ 10)
def askK (k : Nat) (p : Sp) : Sp := if p.pc = 0 then (if k = 1 then { p with pc := 1, a := 1 } else { p with pc := 1 }) else p
def leaveK (p : Sp) : Sp := if p.pc = 10 then { p with pc := 11 } else p
/-- what a look does whether nobody waits -/
def aloneK (k : Nat) (t : Int) (s : Ar) (i : Int) (p : Sp) : Ar × Bool :=
  if p.pc = 10 then
    if k = 1 then (s, true) else if k = 2 ∨ k = 3 then (loadA s t, decide (ldW s.W t = p.a + 1))
    else if k = 4 then (loadA s (mNx t (i + 1)), decide (ldW s.W (mNx t (i + 1)) = 0)) else (loadA s t, decide (ldW s.W t = p.a))
  else (s, false)
end Go.Proofs.YtagajjilccjplaaGreat
end
section
set_option linter.unusedVariables false
set_option linter.unusedSimpArgs false
/- Layers 15 to 20: how large words and spots of a flat lock become: 2 more a step. No program in sight. -/
namespace Go.Proofs.YtagajjilccjplaaGreat
open Go

def WdB (B : Int) (s : Ar) : Prop := ∀ v ∈ s.W, 0 ≤ v ∧ v ≤ B
structure SpB (k : Nat) (B : Int) (p : Sp) : Prop where
  a0 : 0 ≤ p.a
  a1 : p.a ≤ B
  b0 : -B ≤ p.b
  b1 : p.b ≤ B
  b2 : k ≠ 1 → 0 ≤ p.b
theorem WdB.mono {B C : Int} {s : Ar} (h : WdB B s) (hBC : B ≤ C) : WdB C s := fun v hv => ⟨(h v hv).1, by have := (h v hv).2; omega⟩
theorem SpB.mono {k : Nat} {B C : Int} {p : Sp} (h : SpB k B p) (hBC : B ≤ C) : SpB k C p := ⟨h.a0, by have := h.a1; omega, by have := h.b0; omega, by have := h.b1; omega, h.b2⟩
theorem WdB.ld {B : Int} {s : Ar} (h : WdB B s) (hB : 0 ≤ B) (x : Int) : 0 ≤ ldW s.W x ∧ ldW s.W x ≤ B := by
  by_cases hx : inR s.W x = true
  · rw [ldW_in hx]
    obtain ⟨h1, h2⟩ := inR_true.1 hx
    have hl : x.toNat - 1 < s.W.length := by omega
    rw [List.getD_eq_getElem?_getD, List.getElem?_eq_getElem hl]
    exact h _ (List.getElem_mem hl)
  · rw [ldW_out (by simpa using hx)]; exact ⟨Int.le_refl _, hB⟩
theorem WdB.st {B : Int} {s s' : Ar} (h : WdB B s) (x v : Int) (hv : 0 ≤ v ∧ v ≤ B) (e : s'.W = stW s.W x v) : WdB B s' := by
  intro u hu
  rw [e] at hu
  unfold stW at hu
  split at hu
  · rcases List.mem_or_eq_of_mem_set hu with h1 | h1
    · exact h u h1
    · rw [h1]; exact hv
  · exact h u hu
theorem WdB.same {B : Int} {s s' : Ar} (h : WdB B s) (e : s'.W = s.W) : WdB B s' := by intro u hu; rw [e] at hu; exact h u hu
theorem WdB.load {B : Int} {s : Ar} (h : WdB B s) (x : Int) : WdB B (loadA s x) := h.same (loadA_W _ _)
theorem WdB.store {B : Int} {s : Ar} (h : WdB B s) (x v : Int) (hv : 0 ≤ v ∧ v ≤ B) : WdB B (storeA s x v) := h.st x v hv (storeA_W _ _ _)
theorem WdB.swap {B : Int} {s : Ar} (h : WdB B s) (x v : Int) (hv : 0 ≤ v ∧ v ≤ B) : WdB B (swapA s x v) := h.st x v hv (swapA_W _ _ _)
theorem WdB.cas {B : Int} {s : Ar} (h : WdB B s) (x o v : Int) (hv : 0 ≤ v ∧ v ≤ B) : WdB B (casA s x o v) := by
  have e := casA_W s x o v
  split at e
  · exact h.st x v hv e
  · exact h.same e
theorem WdB.add1 {B : Int} {s : Ar} (h : WdB B s) (hB : 0 ≤ B) (hB2 : B ≤ 10000000000000) (x : Int) : WdB (B + 2) (addA s x 1) := by
  have hl := h.ld hB x
  refine (h.mono (by omega)).st x _ ?_ (addA_W _ _ _)
  rw [IntWalk.i64_in _ (by omega)]
  omega
theorem bd_step {k : Nat} {B : Int} {t m : Int} {s : Ar} {i : Int} {p : Sp} (hW : WdB B s) (hp : SpB k B p) (hB : 0 ≤ B) (hB2 : B ≤ 10000000000000) (hi : 0 ≤ i ∧ i + 1 ≤ B) (hm : 1 ≤ m ∧ m ≤ B) :
    WdB (B + 2) (stepK k t m s i p).1 ∧ SpB k (B + 2) (stepK k t m s i p).2 := by
  have hW2 : WdB (B + 2) s := hW.mono (by omega)
  have hl := fun x => hW.ld hB x
  have hp2 : SpB k (B + 2) p := hp.mono (by omega)
  have ha0 := hp.a0
  have ha1 := hp.a1
  have hb0 := hp.b0
  have hb1 := hp.b1
  have hb2 := hp.b2
  unfold stepK
  split
  · rename_i hk
    unfold tasK
    split
    · refine ⟨hW2.cas _ _ _ (by omega), ?_⟩
      split
      · exact ⟨by simpa using ha0, by show p.a ≤ _; omega, by show _ ≤ p.b; omega, by show p.b ≤ _; omega, fun h => absurd hk h⟩
      · refine ⟨?_, ?_, ?_, ?_, fun h => absurd hk h⟩
        · show 0 ≤ min (2 * p.a) m; omega
        · show min (2 * p.a) m ≤ _; omega
        · show _ ≤ p.a; omega
        · show p.a ≤ _; omega
    split
    · refine ⟨hW2, ?_, ?_, ?_, ?_, fun h => absurd hk h⟩
      · exact ha0
      · show p.a ≤ _; omega
      · show _ ≤ p.b - 1; omega
      · show p.b - 1 ≤ _; omega
    split
    · exact ⟨hW2.store _ _ (by omega), hp2.a0, hp2.a1, hp2.b0, hp2.b1, hp2.b2⟩
    · exact ⟨hW2, hp2⟩
  split
  · unfold tickK
    split
    · exact ⟨hW.add1 hB hB2 _, (hl _).1, by have := (hl t).2; show ldW s.W t ≤ _; omega, hp2.b0, hp2.b1, hp2.b2⟩
    split
    · exact ⟨hW2.load _, hp2.a0, hp2.a1, hp2.b0, hp2.b1, hp2.b2⟩
    split
    · exact ⟨hW2.store _ _ (by omega), hp2.a0, hp2.a1, hp2.b0, hp2.b1, hp2.b2⟩
    · exact ⟨hW2, hp2⟩
  split
  · unfold partK
    split
    · exact ⟨hW.add1 hB hB2 _, (hl _).1, by have := (hl t).2; show ldW s.W t ≤ _; omega, hp2.b0, hp2.b1, hp2.b2⟩
    split
    · exact ⟨hW2.load _, hp2.a0, hp2.a1, hp2.b0, hp2.b1, hp2.b2⟩
    split
    · exact ⟨hW2.store _ _ (by omega), hp2.a0, hp2.a1, hp2.b0, hp2.b1, hp2.b2⟩
    · exact ⟨hW2, hp2⟩
  have hv : ∀ x : Int, ldW s.W x ≤ B + 2 := fun x => by have := (hl x).2; omega
  split
  · unfold mcsK
    split
    · unfold mcsIn
      split
      · exact ⟨hW2.store _ _ (by omega), hp2.a0, hp2.a1, hp2.b0, hp2.b1, hp2.b2⟩
      split
      · exact ⟨hW2.store _ _ (by omega), hp2.a0, hp2.a1, hp2.b0, hp2.b1, hp2.b2⟩
      split
      · exact ⟨hW2.swap _ _ (by omega), (hl _).1, hv _, hp2.b0, hp2.b1, hp2.b2⟩
      split
      · exact ⟨hW2.store _ _ (by omega), hp2.a0, hp2.a1, hp2.b0, hp2.b1, hp2.b2⟩
      · exact ⟨hW2.load _, hp2.a0, hp2.a1, hp2.b0, hp2.b1, hp2.b2⟩
    split
    · unfold mcsOut
      split
      · exact ⟨hW2.cas _ _ _ (by omega), hp2.a0, hp2.a1, hp2.b0, hp2.b1, hp2.b2⟩
      split
      · exact ⟨hW2.store _ _ (by omega), hp2.a0, hp2.a1, hp2.b0, hp2.b1, hp2.b2⟩
      · exact ⟨hW2.load _, (hl _).1, hv _, hp2.b0, hp2.b1, hp2.b2⟩
    · exact ⟨hW2, hp2⟩
  · rename_i hk _ _ _
    unfold clhK
    split
    · exact ⟨hW2.store _ _ (by omega), hp2.a0, hp2.a1, hp2.b0, hp2.b1, hp2.b2⟩
    split
    · exact ⟨hW2.swap _ _ (by omega), hp2.a0, hp2.a1, by show _ ≤ ldW s.W t; have := (hl t).1; omega, hv _, fun _ => (hl _).1⟩
    split
    · exact ⟨hW2.load _, hp2.a0, hp2.a1, hp2.b0, hp2.b1, hp2.b2⟩
    split
    · exact ⟨hW2.store _ _ (by omega), hb2 hk, hp2.b1, hp2.b0, hp2.b1, hp2.b2⟩
    · exact ⟨hW2, hp2⟩
theorem bd_ask {k : Nat} {B : Int} {p : Sp} (hp : SpB k B p) (hB : 1 ≤ B) : SpB k B (askK k p) := by
  unfold askK
  split
  · split
    · exact ⟨by show (0 : Int) ≤ 1; omega, hB, hp.b0, hp.b1, hp.b2⟩
    · exact ⟨hp.a0, hp.a1, hp.b0, hp.b1, hp.b2⟩
  · exact hp
theorem bd_leave {k : Nat} {B : Int} {p : Sp} (hp : SpB k B p) : SpB k B (leaveK p) := by
  unfold leaveK
  split
  · exact ⟨hp.a0, hp.a1, hp.b0, hp.b1, hp.b2⟩
  · exact hp
end Go.Proofs.YtagajjilccjplaaGreat
end
section
set_option linter.unusedVariables false
set_option linter.unusedSimpArgs false
/- Layer 24 (cohort) as plain data: a step of a thread. No program in sight. -/
namespace Go.Proofs.YtagajjilccjplaaGreat
open Go

/-- what does not change: kinds, the global lock's first word, how long or how many, the budget; each thread's node and slot, each node's first word and its count's -/
structure CoC where
  kg : Nat
  kl : Nat
  tg : Int
  m : Int
  bud : Int
  node : Nat → Nat
  slot : Nat → Nat
  tl : Nat → Int
  cw : Nat → Int
/-- what does: the arena, the spots of the global lock, of the local ones, of the threads -/
structure Co where
  s : Ar
  G : List Sp
  L : List (List Sp)
  T : List Sp
def lsp (L : List (List Sp)) (n i : Nat) : Sp := (L.getD n []).getD i Sp.zero
def lset (L : List (List Sp)) (n i : Nat) (p : Sp) : List (List Sp) := L.set n ((L.getD n []).set i p)
def passB (count bud : Int) (alone : Bool) : Bool := decide (1 ≤ count ∧ count ≤ bud) && !alone
/-- a step of a thread's local lock, of its node's global one -/
def stL (c : CoC) (st : Co) (i : Nat) : Ar × Sp := stepK c.kl (c.tl (c.node i)) c.m st.s (c.slot i) (lsp st.L (c.node i) (c.slot i))
def stG (c : CoC) (st : Co) (i : Nat) : Ar × Sp := stepK c.kg c.tg c.m st.s (c.node i) (sv st.G (c.node i))
def camL (c : CoC) (st : Co) (i : Nat) : Bool := cameK (lsp st.L (c.node i) (c.slot i)) (stL c st i).2
def camG (c : CoC) (st : Co) (i : Nat) : Bool := cameK (sv st.G (c.node i)) (stG c st i).2
def setL (c : CoC) (st : Co) (i : Nat) (p : Sp) : List (List Sp) := lset st.L (c.node i) (c.slot i) p
/-- what a step makes of the arena, the global spots, the local ones, the thread's spot -/
def coIn (c : CoC) (st : Co) (i : Nat) (p : Sp) : Ar × List Sp × List (List Sp) × Sp :=
  if p.pc = 1 then ((stL c st i).1, st.G, setL c st i (stL c st i).2, if camL c st i then { p with pc := 2 } else p)
  else if p.pc = 2 then
    if 0 < ldW st.s.W (c.cw (c.node i)) then (loadA st.s (c.cw (c.node i)), st.G, st.L, { p with a := ldW st.s.W (c.cw (c.node i)), pc := 10 })
    else (loadA st.s (c.cw (c.node i)), st.G.set (c.node i) (askK c.kg (sv st.G (c.node i))), st.L, { p with a := ldW st.s.W (c.cw (c.node i)), pc := 3 })
  else if p.pc = 3 then ((stG c st i).1, st.G.set (c.node i) (stG c st i).2, st.L, if camG c st i then { p with pc := 4 } else p)
  else if p.pc = 4 then (storeA st.s (c.cw (c.node i)) 1, st.G, st.L, { p with a := 1, pc := 10 })
  else (st.s, st.G, st.L, p)
def coOut (c : CoC) (st : Co) (i : Nat) (p : Sp) : Ar × List Sp × List (List Sp) × Sp :=
  if p.pc = 11 then (loadA st.s (c.cw (c.node i)), st.G, st.L, { p with a := ldW st.s.W (c.cw (c.node i)), pc := if c.bud < ldW st.s.W (c.cw (c.node i)) then 14 else 12 })
  else if p.pc = 12 then
    ((aloneK c.kl (c.tl (c.node i)) st.s (c.slot i) (lsp st.L (c.node i) (c.slot i))).1, st.G, st.L,
      { p with pc := if passB p.a c.bud (aloneK c.kl (c.tl (c.node i)) st.s (c.slot i) (lsp st.L (c.node i) (c.slot i))).2 then 13 else 14 })
  else if p.pc = 13 then (storeA st.s (c.cw (c.node i)) (p.a + 1), st.G, setL c st i (leaveK (lsp st.L (c.node i) (c.slot i))), { p with pc := 16 })
  else if p.pc = 14 then (storeA st.s (c.cw (c.node i)) 0, st.G.set (c.node i) (leaveK (sv st.G (c.node i))), st.L, { p with pc := 15 })
  else if p.pc = 15 then
    if camG c st i then ((stG c st i).1, st.G.set (c.node i) (stG c st i).2, setL c st i (leaveK (lsp st.L (c.node i) (c.slot i))), { p with pc := 16 })
    else ((stG c st i).1, st.G.set (c.node i) (stG c st i).2, st.L, p)
  else if p.pc = 16 then ((stL c st i).1, st.G, setL c st i (stL c st i).2, if camL c st i then { p with pc := 0 } else p)
  else (st.s, st.G, st.L, p)
def coMv (c : CoC) (st : Co) (i : Nat) (p : Sp) : Ar × List Sp × List (List Sp) × Sp := if p.pc < 10 then coIn c st i p else coOut c st i p
def coSet (st : Co) (i : Nat) (r : Ar × List Sp × List (List Sp) × Sp) : Co := ⟨r.1, r.2.1, r.2.2.1, st.T.set i r.2.2.2⟩
/-- a step, an ask and a leave of a thread that is one -/
def coStep (c : CoC) (st : Co) (i : Nat) : Co := if (sv st.T i).pc = 0 ∨ (sv st.T i).pc = 10 then st else coSet st i (coMv c st i (sv st.T i))
def coAsk (c : CoC) (st : Co) (i : Nat) : Co :=
  if (sv st.T i).pc = 0 then { st with L := setL c st i (askK c.kl (lsp st.L (c.node i) (c.slot i))), T := st.T.set i { (sv st.T i) with pc := 1 } } else st
def coLeave (st : Co) (i : Nat) : Co := if (sv st.T i).pc = 10 then { st with T := st.T.set i { (sv st.T i) with pc := 11 } } else st
/-- the bounds of all -/
structure CoB (c : CoC) (B : Int) (st : Co) : Prop where
  w : WdB B st.s
  g : ∀ p ∈ st.G, SpB c.kg B p
  l : ∀ x ∈ st.L, ∀ p ∈ x, SpB c.kl B p
  t : ∀ p ∈ st.T, 0 ≤ p.a ∧ p.a ≤ B
theorem spz (k : Nat) {B : Int} (hB : 0 ≤ B) : SpB k B Sp.zero := ⟨Int.le_refl _, hB, by show -B ≤ 0; omega, hB, fun _ => Int.le_refl _⟩
theorem getD_memZ {S : List Sp} {P : Sp → Prop} (h : ∀ p ∈ S, P p) (hz : P Sp.zero) (i : Nat) : P (S.getD i Sp.zero) := by
  rw [List.getD_eq_getElem?_getD]
  by_cases hi : i < S.length
  · rw [List.getElem?_eq_getElem hi]; exact h _ (List.getElem_mem hi)
  · rw [List.getElem?_eq_none (by omega)]; exact hz
theorem all_set {α : Type} {S : List α} {P : α → Prop} (h : ∀ p ∈ S, P p) (i : Nat) {p : α} (hp : P p) : ∀ q ∈ S.set i p, P q := by
  intro q hq
  rcases List.mem_or_eq_of_mem_set hq with h1 | h1
  · exact h q h1
  · rw [h1]; exact hp
section
variable {c : CoC} {B : Int} {st : Co}
theorem CoB.lall (h : CoB c B st) (n : Nat) : ∀ p ∈ st.L.getD n [], SpB c.kl B p := by
  rw [List.getD_eq_getElem?_getD]
  by_cases hi : n < st.L.length
  · rw [List.getElem?_eq_getElem hi]; exact h.l _ (List.getElem_mem hi)
  · rw [List.getElem?_eq_none (by omega)]; intro p hp; cases hp
theorem CoB.lsp (h : CoB c B st) (hB : 0 ≤ B) (n i : Nat) : SpB c.kl B (lsp st.L n i) := getD_memZ (h.lall n) (spz _ hB) i
theorem CoB.gsp (h : CoB c B st) (hB : 0 ≤ B) (n : Nat) : SpB c.kg B (sv st.G n) := getD_memZ h.g (spz _ hB) n
theorem CoB.tsp (h : CoB c B st) (hB : 0 ≤ B) (n : Nat) : 0 ≤ (sv st.T n).a ∧ (sv st.T n).a ≤ B := getD_memZ (P := fun p => 0 ≤ p.a ∧ p.a ≤ B) h.t ⟨Int.le_refl _, hB⟩ n
theorem CoB.mono (h : CoB c B st) {C : Int} (hC : B ≤ C) : CoB c C st :=
  ⟨h.w.mono hC, fun p hp => (h.g p hp).mono hC, fun x hx p hp => (h.l x hx p hp).mono hC, fun p hp => ⟨(h.t p hp).1, by have := (h.t p hp).2; omega⟩⟩
theorem CoB.setL (h : CoB c B st) (n i : Nat) {p : Sp} (hp : SpB c.kl B p) : ∀ x ∈ lset st.L n i p, ∀ q ∈ x, SpB c.kl B q := all_set h.l n (all_set (h.lall n) i hp)
/-- a step makes nothing larger by more than 2 -/
theorem coMv_bd (h : CoB c B st) (hB : 1 ≤ B) (hB2 : B ≤ 10000000000000) (i : Nat) (hs : (c.slot i : Int) + 1 ≤ B) (hn : (c.node i : Int) + 1 ≤ B) (hm : 1 ≤ c.m ∧ c.m ≤ B) (p : Sp) (hp : 0 ≤ p.a ∧ p.a ≤ B) :
    CoB c (B + 2) (coSet st i (coMv c st i p)) := by
  have h2 := h.mono (C := B + 2) (by omega)
  have hB0 : (0 : Int) ≤ B := by omega
  have hL := bd_step (t := c.tl (c.node i)) (m := c.m) (i := (c.slot i : Int)) h.w (h.lsp hB0 (c.node i) (c.slot i)) hB0 hB2 ⟨by omega, hs⟩ hm
  have hG := bd_step (t := c.tg) (m := c.m) (i := (c.node i : Int)) h.w (h.gsp hB0 (c.node i)) hB0 hB2 ⟨by omega, hn⟩ hm
  have hld := h.w.ld hB0 (c.cw (c.node i))
  have hp2 : 0 ≤ p.a ∧ p.a ≤ B + 2 := ⟨hp.1, by omega⟩
  have hT : ∀ q : Sp, (0 ≤ q.a ∧ q.a ≤ B + 2) → ∀ r ∈ st.T.set i q, 0 ≤ r.a ∧ r.a ≤ B + 2 := fun q hq => all_set h2.t i hq
  have hv : 0 ≤ ldW st.s.W (c.cw (c.node i)) ∧ ldW st.s.W (c.cw (c.node i)) ≤ B + 2 := ⟨hld.1, by omega⟩
  have hLv : SpB c.kl (B + 2) (leaveK (Go.Proofs.YtagajjilccjplaaGreat.lsp st.L (c.node i) (c.slot i))) := bd_leave (h2.lsp (by omega) _ _)
  have hGv : SpB c.kg (B + 2) (leaveK (sv st.G (c.node i))) := bd_leave (h2.gsp (by omega) _)
  have hGa : SpB c.kg (B + 2) (askK c.kg (sv st.G (c.node i))) := bd_ask (h2.gsp (by omega) _) (by omega)
  unfold coMv
  split
  · unfold coIn
    split
    · exact ⟨hL.1, h2.g, h2.setL _ _ hL.2, hT _ (by split <;> exact hp2)⟩
    split
    · split
      · exact ⟨h2.w.load _, h2.g, h2.l, hT _ hv⟩
      · exact ⟨h2.w.load _, all_set h2.g _ hGa, h2.l, hT _ hv⟩
    split
    · exact ⟨hG.1, all_set h2.g _ hG.2, h2.l, hT _ (by split <;> exact hp2)⟩
    split
    · exact ⟨h2.w.store _ _ (by omega), h2.g, h2.l, hT _ ⟨by show (0 : Int) ≤ 1; omega, by show (1 : Int) ≤ _; omega⟩⟩
    · exact ⟨h2.w, h2.g, h2.l, hT _ hp2⟩
  · unfold coOut
    split
    · exact ⟨h2.w.load _, h2.g, h2.l, hT _ hv⟩
    split
    · refine ⟨?_, h2.g, h2.l, hT _ hp2⟩
      show WdB _ (aloneK _ _ _ _ _).1
      unfold aloneK
      split
      · split
        · exact h2.w
        split
        · exact h2.w.load _
        split <;> exact h2.w.load _
      · exact h2.w
    split
    · exact ⟨h2.w.store _ _ (by omega), h2.g, h2.setL _ _ hLv, hT _ hp2⟩
    split
    · exact ⟨h2.w.store _ _ (by omega), all_set h2.g _ hGv, h2.l, hT _ hp2⟩
    split
    · split
      · exact ⟨hG.1, all_set h2.g _ hG.2, h2.setL _ _ hLv, hT _ hp2⟩
      · exact ⟨hG.1, all_set h2.g _ hG.2, h2.l, hT _ hp2⟩
    split
    · exact ⟨hL.1, h2.g, h2.setL _ _ hL.2, hT _ (by split <;> exact hp2)⟩
    · exact ⟨h2.w, h2.g, h2.l, hT _ hp2⟩
end
end Go.Proofs.YtagajjilccjplaaGreat
end
section
set_option linter.unusedVariables false
set_option linter.unusedSimpArgs false
/-
  Words for memory that my walks share: a slice that reads as a list of elements (RdL), a call that only reads (Qt), small laws on the two. No program in sight.
-/
namespace Go.Proofs.YtagajjilccjplaaGreat
open Go.RowKit

/-- The slice value v reads as the list l in w: sz cells an element, by enc. -/
def RdL {α : Type} (w : World) (v : Value) (sz : Nat) (enc : α → List Value) (l : List α) : Prop :=
  ∃ A cap, v = .slice A l.length cap ∧ l.length ≤ cap ∧ l.length ≤ 140737488355328 ∧
    (0 < l.length → ∃ b off, A = some ⟨b, off, none⟩ ∧ b < w.heap.size ∧ ∀ i x, l[i]? = some x → ∀ j u, (enc x)[j]? = some u → w.cell? ⟨b, off + i * sz + j, none⟩ = some u)

def Qt (w w' : World) : Prop := ∃ n, w' = w.drewN n

theorem Qt.refl (w : World) : Qt w w := ⟨0, rfl⟩
theorem Qt.trans {a b c : World} (h : Qt a b) (k : Qt b c) : Qt a c := by
  obtain ⟨n, rfl⟩ := h; obtain ⟨m, rfl⟩ := k
  exact ⟨n + m, by rw [World.drewN_drewN]⟩
theorem below_drewN {B : Nat} {a w : World} (h : Below B a w) (n : Nat) : Below B a (w.drewN n) := ⟨h.os, h.tape, h.output, h.size, h.block⟩
theorem Qt.below {w w' : World} (h : Qt w w') (B : Nat) : Below B w w' := by
  obtain ⟨n, rfl⟩ := h
  exact below_drewN (Below.refl _ _) n
theorem block_lt_of_cell {w : World} {a : Addr} {v : Value} (h : w.cell? a = some v) : a.block < w.heap.size := World.block_lt_of_cell? w a h

section
variable {α : Type} {w w' : World} {v : Value} {sz : Nat} {enc : α → List Value} {l : List α}
theorem RdL.keep (h : RdL w v sz enc l) (hs : w.heap.size ≤ w'.heap.size) (hk : ∀ p : Addr, p.block < w.heap.size → w'.cell? p = w.cell? p) : RdL w' v sz enc l := by
  obtain ⟨A, cap, h1, h2, h3, h4⟩ := h
  refine ⟨A, cap, h1, h2, h3, fun hn => ?_⟩
  obtain ⟨b, off, e, hb, hc⟩ := h4 hn
  exact ⟨b, off, e, by omega, fun i x hx j u hu => (hk _ hb).trans (hc i x hx j u hu)⟩
theorem RdL.below (h : RdL w v sz enc l) {B : Nat} (hb : Below B w w') (hB : w.heap.size ≤ B) : RdL w' v sz enc l :=
  h.keep hb.size fun p hp => hb.cell (by omega)
theorem RdL.drewN (h : RdL w v sz enc l) (n : Nat) : RdL (w.drewN n) v sz enc l := h
theorem RdL.qt (h : RdL w v sz enc l) (q : Qt w w') : RdL w' v sz enc l := by
  obtain ⟨n, rfl⟩ := q; exact h
theorem RdL.alloc (h : RdL w v sz enc l) (o : Obj) : RdL (w.alloc o) v sz enc l := h.keep (by simp) fun p hp => World.cell?_alloc_lt w o p hp
theorem RdL.setCell (h : RdL w v sz enc l) {B : Nat} (hb : ∀ b off cap, v = .slice (some ⟨b, off, none⟩) l.length cap → b < B) {p : Addr} (hp : B ≤ p.block) (u : Value) : RdL (w.setCell p u) v sz enc l := by
  obtain ⟨A, cap, h1, h2, h3, h4⟩ := h
  refine ⟨A, cap, h1, h2, h3, fun hn => ?_⟩
  obtain ⟨b, off, e, hbb, hc⟩ := h4 hn
  have hlt : b < B := hb b off cap (by rw [h1, e])
  exact ⟨b, off, e, by simpa [World.setCell] using hbb, fun i x hx j u' hu => (World.cell?_setCell_other w p _ u (fun e => by subst e; simp at hp; omega)).trans (hc i x hx j u' hu)⟩
theorem RdL.nil : RdL w (.slice none 0 0) sz enc [] := ⟨none, 0, rfl, by simp, by simp, by simp⟩
end

/-- the cells of a list of elements, one behind the other -/
theorem getElem?_flatMap {α : Type} (enc : α → List Value) (sz : Nat) (hs : ∀ x, (enc x).length = sz) (l : List α) :
    ∀ i x j u, l[i]? = some x → (enc x)[j]? = some u → (l.flatMap enc)[i * sz + j]? = some u := by
  induction l with
  | nil => intro i x j u h; simp at h
  | cons a l ih =>
    intro i x j u h hu
    have hj : j < sz := by have := (List.getElem?_eq_some_iff.1 hu).1; rw [hs] at this; exact this
    cases i with
    | zero =>
      simp at h; subst h
      rw [List.flatMap_cons, List.getElem?_append_left (by rw [hs]; omega)]
      simpa using hu
    | succ i =>
      rw [List.flatMap_cons, List.getElem?_append_right (by rw [hs, Nat.succ_mul]; omega), hs]
      have : (i + 1) * sz + j - sz = i * sz + j := by rw [Nat.succ_mul]; omega
      rw [this]
      exact ih i x j u (by simpa using h) hu
/-- what a call owns reads as a list -/
theorem RdL.of_own {α : Type} {w : World} {base : Nat} {e : TypeId} {sz : Nat} {v : Value} {n : Nat} {enc : α → List Value} {l : List α} (hs : ∀ x, (enc x).length = sz)
    (hn : n = l.length) (hcap : l.length ≤ 140737488355328) (h : w.ownsRow base e sz v n (l.flatMap enc)) : RdL w v sz enc l := by
  subst hn
  rcases h.2 with ⟨rfl, h0⟩ | ⟨g, cap, cur, rfl, hb, hg, hnc, hcm, hcs, ht⟩
  · have : l = [] := List.eq_nil_of_length_eq_zero h0
    subst this
    exact RdL.nil
  · refine ⟨some ⟨g, 0, none⟩, cap, rfl, hnc, hcap, fun _ => ⟨g, 0, rfl, (Array.getElem?_eq_some_iff.1 hg).1, ?_⟩⟩
    intro i x hx j u hu
    have hc := h.cells (g := g) rfl (i * sz + j) u (getElem?_flatMap enc sz hs l i x j u hx hu)
    have hadd : (⟨g, 0, none⟩ : Addr).add (i * sz + j) = ⟨g, 0 + i * sz + j, none⟩ := by
      unfold Addr.add; split <;> simp_all
    rw [hadd] at hc
    exact hc
theorem getElem?_lt {α : Type} {l : List α} {k : Nat} (h : k < l.length) : ∃ x, l[k]? = some x := ⟨l[k], List.getElem?_eq_getElem h⟩
theorem take_succ_of {α : Type} {l : List α} {k : Nat} {x : α} (h : l[k]? = some x) : l.take (k + 1) = l.take k ++ [x] := by
  rw [List.take_add_one, h]; rfl
theorem quiet_left {P : Program} {f : FuncId} {args : Array Value} {w : World} {n : Nat} {v : Value}
    (h : Calls P f args (w.drewN n) fun e w' => e = .returned v ∧ w.drewN n = w') : Calls P f args (w.drewN n) fun e w'' => e = .returned v ∧ ∃ m, w'' = w.drewN m :=
  h.mono fun _ _ ⟨he, hm⟩ => ⟨he, n, hm.symm⟩
def encI (z : Int) : List Value := [.int .i64 z]
theorem encI_len (z : Int) : (encI z).length = 1 := rfl
/-- a block known whole -/
def Blk (w : World) (g : Nat) (t : TypeId) (cs : Array Value) : Prop := w.heap[g]? = some (.cells cs t (0, 0))
section
variable {w w' : World} {g : Nat} {t : TypeId} {cs : Array Value}
theorem Blk.lt (h : Blk w g t cs) : g < w.heap.size := lt_of_block h
theorem Blk.cell (h : Blk w g t cs) (i : Nat) : w.cell? ⟨g, i, none⟩ = cs[i]? := cell_of_row w g i cs t (0, 0) h
theorem Blk.free (h : Blk w g t cs) (i : Nat) : w.frozen? ⟨g, i, none⟩ = false := by unfold Blk at h; simp [World.frozen?, h]
theorem Blk.new (w : World) (t : TypeId) (cs : Array Value) : Blk (w.alloc (.cells cs t)) w.heap.size t cs := heap_alloc_new w _
theorem Blk.new' (w : World) (t : TypeId) (cs : Array Value) {g : Nat} (hg : g = w.heap.size) : Blk (w.alloc (.cells cs t)) g t cs := by subst hg; exact heap_alloc_new w _
theorem Blk.drewN (h : Blk w g t cs) (n : Nat) : Blk (w.drewN n) g t cs := h
theorem Blk.drew (h : Blk w g t cs) : Blk w.drew g t cs := h
theorem Blk.alloc (h : Blk w g t cs) (o : Obj) : Blk (w.alloc o) g t cs := (Below.heap_alloc w o g h.lt).trans h
theorem Blk.set_ (h : Blk w g t cs) (i : Nat) (u : Value) : Blk (w.setCell ⟨g, i, none⟩ u) g t (cs.setIfInBounds i u) := by
  unfold Blk at h ⊢
  simp [World.setCell, Array.getElem?_modify, h]
theorem Blk.far (h : Blk w g t cs) {p : Addr} (hp : g ≠ p.block) (u : Value) : Blk (w.setCell p u) g t cs := (Below.heap_setCell w p u g hp).trans h
theorem Blk.below {B : Nat} (h : Blk w g t cs) (hb : Below B w w') (hg : g < B) : Blk w' g t cs := (hb.block g hg).trans h
theorem Blk.grown {row : Option Nat} (h : Blk w g t cs) (hb : w.grownBy w' row) (hg : some g ≠ row) : Blk w' g t cs := (hb.block g h.lt hg).trans h
end
theorem grown_refl (w : World) (row : Option Nat) : w.grownBy w row := ⟨rfl, rfl, rfl, Nat.le_refl _, fun _ _ _ => rfl⟩
theorem grown_alloc {a w : World} {row : Option Nat} (h : a.grownBy w row) (o : Obj) : a.grownBy (w.alloc o) row :=
  ⟨h.os, h.tape, h.output, Nat.le_trans h.size (by simp), fun i hi hne => (Below.heap_alloc w o i (Nat.lt_of_lt_of_le hi h.size)).trans (h.block i hi hne)⟩
theorem grown_set {a w : World} {g : Nat} (h : a.grownBy w (some g)) (o : Nat) (u : Value) : a.grownBy (w.setCell ⟨g, o, none⟩ u) (some g) :=
  ⟨h.os, h.tape, h.output, by simpa [World.setCell] using h.size, fun i hi hne => (Below.heap_setCell w ⟨g, o, none⟩ u i (by
    rintro rfl
    exact hne rfl)).trans (h.block i hi hne)⟩
theorem grown_drewN {a w : World} {row : Option Nat} (h : a.grownBy w row) (n : Nat) : a.grownBy (w.drewN n) row := ⟨h.os, h.tape, h.output, h.size, h.block⟩
theorem grown_of_below {a w : World} (h : Below a.heap.size a w) (row : Option Nat) : a.grownBy w row := ⟨h.os, h.tape, h.output, h.size, fun i hi _ => h.block i hi⟩
def encP (p : Int × Int) : List Value := [.int .i64 p.1, .int .i64 p.2]
theorem encP_len (p : Int × Int) : (encP p).length = 2 := rfl
theorem ret_bool {a b : Bool} (h : a = b) : Ending.returned (.bool a) = .returned (.bool b) := by rw [h]
theorem ret_int {k : IntKind} {a b : Int} (h : a = b) : Ending.returned (.int k a) = .returned (.int k b) := by rw [h]
theorem own_form {w : World} {base : Nat} {e : TypeId} {sz : Nat} {v : Value} {n : Nat} {xs : List Value} (h : w.ownsRow base e sz v n xs) : ∃ A c, v = .slice A n c := by
  rcases h.2 with ⟨rfl, rfl⟩ | ⟨g, cap, cur, rfl, _⟩
  · exact ⟨_, _, rfl⟩
  · exact ⟨_, _, rfl⟩
theorem own_form1 {w : World} {base : Nat} {e : TypeId} {sz : Nat} {v : Value} {n : Nat} {xs : List Value} (h : w.ownsRow base e sz v n xs) (hn : 0 < n) :
    ∃ g c, v = .slice (some ⟨g, 0, none⟩) n c ∧ base ≤ g ∧ g < w.heap.size := by
  rcases h.2 with ⟨rfl, rfl⟩ | ⟨g, cap, cur, rfl, hb, hg, _⟩
  · omega
  · exact ⟨_, _, rfl, hb, (Array.getElem?_eq_some_iff.1 hg).1⟩
end Go.Proofs.YtagajjilccjplaaGreat
end
section
set_option linter.unusedVariables false
set_option linter.unusedSimpArgs false
/- Words for a call that writes to some blocks of its caller's and leaves all others as they were. No program in sight. -/
namespace Go.Proofs.YtagajjilccjplaaGreat
open Go.RowKit

/-- w' is w but for the blocks of S, and for new ones -/
structure Turns (S : List Nat) (w w' : World) : Prop where
  os : w'.os = w.os
  tape : w'.tape = w.tape
  output : w'.output = w.output
  size : w.heap.size ≤ w'.heap.size
  block : ∀ i, i < w.heap.size → i ∉ S → w'.heap[i]? = w.heap[i]?
section
variable {S T : List Nat} {a b c w w' : World}
theorem Turns.refl (S : List Nat) (w : World) : Turns S w w := ⟨rfl, rfl, rfl, Nat.le_refl _, fun _ _ _ => rfl⟩
theorem Turns.trans (h : Turns S a b) (k : Turns S b c) : Turns S a c :=
  ⟨k.os.trans h.os, k.tape.trans h.tape, k.output.trans h.output, Nat.le_trans h.size k.size, fun i hi hn => (k.block i (Nat.lt_of_lt_of_le hi h.size) hn).trans (h.block i hi hn)⟩
theorem Turns.mono (h : Turns S a b) (hs : ∀ i ∈ S, i ∈ T) : Turns T a b := ⟨h.os, h.tape, h.output, h.size, fun i hi hn => h.block i hi fun k => hn (hs i k)⟩
/-- blocks that the caller did not have may be struck from the list -/
theorem Turns.fresh (h : Turns S a b) (hs : ∀ i ∈ S, i ∈ T ∨ a.heap.size ≤ i) : Turns T a b :=
  ⟨h.os, h.tape, h.output, h.size, fun i hi hn => h.block i hi fun k => (hs i k).elim hn fun h => by omega⟩
theorem Turns.alloc (h : Turns S a w) (o : Obj) : Turns S a (w.alloc o) :=
  ⟨h.os, h.tape, h.output, Nat.le_trans h.size (by simp), fun i hi hn => (Below.heap_alloc w o i (Nat.lt_of_lt_of_le hi h.size)).trans (h.block i hi hn)⟩
theorem Turns.setCell (h : Turns S a w) {p : Addr} (hp : p.block ∈ S ∨ a.heap.size ≤ p.block) (u : Value) : Turns S a (w.setCell p u) :=
  ⟨h.os, h.tape, h.output, by simpa [World.setCell] using h.size, fun i hi hn => (Below.heap_setCell w p u i (by
    rintro rfl
    rcases hp with hp | hp
    · exact hn hp
    · omega)).trans (h.block i hi hn)⟩
theorem Turns.drewN (h : Turns S a w) (n : Nat) : Turns S a (w.drewN n) := ⟨h.os, h.tape, h.output, h.size, h.block⟩
theorem Turns.drew (h : Turns S a w) : Turns S a w.drew := ⟨h.os, h.tape, h.output, h.size, h.block⟩
theorem Turns.of_below (h : Below a.heap.size a b) : Turns S a b := ⟨h.os, h.tape, h.output, h.size, fun i hi _ => h.block i hi⟩
theorem Turns.of_qt (h : Qt a b) : Turns S a b := Turns.of_below (h.below _)
theorem Turns.below {B : Nat} (h : Turns S a b) (hS : ∀ i ∈ S, B ≤ i) (hB : B ≤ a.heap.size) : Below B a b :=
  ⟨h.os, h.tape, h.output, h.size, fun i hi => h.block i (by omega) fun k => by have := hS i k; omega⟩
theorem Turns.blk {g : Nat} {t : TypeId} {cs : Array Value} (h : Turns S w w') (hb : Blk w g t cs) (hg : g ∉ S) : Blk w' g t cs := (h.block g hb.lt hg).trans hb
theorem Turns.grown {g : Nat} (h : w.grownBy w' (some g)) : Turns [g] w w' := ⟨h.os, h.tape, h.output, h.size, fun i hi hn => h.block i hi (by intro e; injection e with e; exact hn (by simp [e]))⟩
theorem Turns.own {base : Nat} {e : TypeId} {sz : Nat} {v : Value} {n : Nat} {xs : List Value} (h : w.ownsRow base e sz v n xs) (k : Turns S w w') (hn : ∀ g, v.ownBlock = some g → g ∉ S) : w'.ownsRow base e sz v n xs := by
  cases hv : v.ownBlock with
  | none =>
    rcases h.2 with ⟨rfl, h0⟩ | ⟨g, cap, cur, rfl, _⟩
    · exact ⟨h.1, .inl ⟨rfl, h0⟩⟩
    · simp [Value.ownBlock] at hv
  | some g =>
    have hg : g ∉ S := hn g hv
    have hl := (h.lt g hv).2
    rcases h.2 with ⟨rfl, h0⟩ | ⟨g', cap, cur, rfl, hb, hc, r⟩
    · simp [Value.ownBlock] at hv
    · have e : g' = g := by simpa [Value.ownBlock] using hv
      subst e
      exact ⟨h.1, .inr ⟨g', cap, cur, rfl, hb, (k.block g' hl hg).trans hc, r⟩⟩
end
end Go.Proofs.YtagajjilccjplaaGreat
end
section
set_option linter.unusedVariables false
set_option linter.unusedSimpArgs false
/- Layer 1: the arena as plain data, how it lies in memory, and what its small functions do. -/
namespace Go.Proofs.YtagajjilccjplaaGreat
open Go.RowKit

def arCells (g : Nat) (s : Ar) : Array Value := #[.slice (some ⟨g, 0, none⟩) s.room s.room, .int .i64 s.W.length, .int .i64 s.ops, .int .i64 s.k, .int .i64 s.at_, .bool s.wr]
def wdL (s : Ar) : List Value := (s.W ++ List.replicate (s.room - s.W.length) 0).map (Value.int .i64)
structure ArIs (w : World) (a g : Nat) (s : Ar) : Prop where
  blk : Blk w a 106 (arCells g s)
  wds : Blk w g 150 (wdL s).toArray
  ne : a ≠ g
  le : s.W.length ≤ s.room
  room : s.room ≤ 4096
  ops : s.ops ≤ 1000000000000
theorem ArIs.turns {w w' : World} {a g : Nat} {s : Ar} {S : List Nat} (h : ArIs w a g s) (k : Turns S w w') (ha : a ∉ S) (hg : g ∉ S) : ArIs w' a g s :=
  ⟨k.blk h.blk ha, k.blk h.wds hg, h.ne, h.le, h.room, h.ops⟩
theorem ArIs.word {w : World} {a g : Nat} {s : Ar} (h : ArIs w a g s) {i : Nat} (hi : i < s.W.length) : w.cell? ⟨g, i, none⟩ = some (.int .i64 (s.W.getD i 0)) ∧ w.frozen? ⟨g, i, none⟩ = false := by
  refine ⟨?_, h.wds.free i⟩
  rw [h.wds.cell i]
  simp [wdL, List.getElem?_append, hi]
theorem wdL_set (s : Ar) {i : Nat} (hi : i < s.W.length) (v : Int) : (wdL s).toArray.setIfInBounds i (.int .i64 v) = (wdL { s with W := s.W.set i v }).toArray := by
  unfold wdL
  simp only [List.setIfInBounds_toArray, List.length_set]
  congr 1
  rw [← List.map_set, List.set_append_left _ _ hi]
section
variable {w : World} {a g : Nat} {s : Ar}
theorem ArIs.c0 (h : ArIs w a g s) : w.cell? ⟨a, 0, none⟩ = some (.slice (some ⟨g, 0, none⟩) s.room s.room) := h.blk.cell 0
theorem ArIs.c1 (h : ArIs w a g s) : w.cell? ⟨a, 1, none⟩ = some (.int .i64 s.W.length) := h.blk.cell 1
theorem ArIs.c2 (h : ArIs w a g s) : w.cell? ⟨a, 2, none⟩ = some (.int .i64 s.ops) := h.blk.cell 2
theorem ArIs.c3 (h : ArIs w a g s) : w.cell? ⟨a, 3, none⟩ = some (.int .i64 s.k) := h.blk.cell 3
theorem ArIs.c4 (h : ArIs w a g s) : w.cell? ⟨a, 4, none⟩ = some (.int .i64 s.at_) := h.blk.cell 4
theorem ArIs.c5 (h : ArIs w a g s) : w.cell? ⟨a, 5, none⟩ = some (.bool s.wr) := h.blk.cell 5
end

theorem len_any {w : World} {a g : Nat} {s : Ar} (h : ArIs w a g s) :
    Calls Tryz.prog 73 #[.pointer (some ⟨a, 0, none⟩)] w fun e w' => e = .returned (.int .i64 s.W.length) ∧ w = w' := by
  have c1 := h.c1
  clear h
  go_enter Tryz.func73, Tryz.ntmps73
  go_wp2
  go_ret
  exact ⟨rfl, rfl⟩
theorem word_in {w : World} {a g : Nat} {s : Ar} (h : ArIs w a g s) (x : Int) (hx : inR s.W x = true) :
    Calls Tryz.prog 152 #[.pointer (some ⟨a, 0, none⟩), .int .i64 x] w fun e w' => e = .returned (.pointer (some ⟨g, x.toNat - 1, none⟩)) ∧ w = w' := by
  have c0 := h.c0
  have H := Lib.hid h
  have hl := h.le
  have hr := h.room
  obtain ⟨h1, h2⟩ := inR_true.1 hx
  obtain ⟨n, rfl⟩ : ∃ n : Nat, x = ((n + 1 : Nat) : Int) := ⟨x.toNat - 1, by omega⟩
  have e1 : ((n + 1 : Nat) : Int).toNat - 1 = n := by omega
  rw [e1]
  have t1 : ¬ ((n + 1 : Nat) : Int) < 1 := by omega
  have t2 : ¬ (s.W.length : Int) < ((n + 1 : Nat) : Int) := by omega
  have t3 : (n : Int) < s.room := by omega
  clear h hx h1 h2 e1
  go_enter Tryz.func152, Tryz.ntmps152
  go_wp2_with (go_at_call 73; refine (len_any H.out).mono ?_; rintro e w' ⟨rfl, rfl⟩)
  go_ret
  exact ⟨by simp, rfl⟩
theorem word_out {w : World} {a g : Nat} {s : Ar} (h : ArIs w a g s) (x : Int) (hx : inR s.W x = false) :
    Calls Tryz.prog 152 #[.pointer (some ⟨a, 0, none⟩), .int .i64 x] w fun e w' => e = .returned (.pointer none) ∧ w = w' := by
  have H := Lib.hid h
  have hx' := inR_false.1 hx
  clear h hx
  by_cases h1 : x < 1
  · go_enter Tryz.func152, Tryz.ntmps152
    go_wp2_with (go_at_call 73; refine (len_any H.out).mono ?_; rintro e w' ⟨rfl, rfl⟩)
    go_ret
    exact ⟨rfl, rfl⟩
  · have t2 : (s.W.length : Int) < x := by omega
    clear hx'
    go_enter Tryz.func152, Tryz.ntmps152
    go_wp2_with (go_at_call 73; refine (len_any H.out).mono ?_; rintro e w' ⟨rfl, rfl⟩)
    go_ret
    exact ⟨rfl, rfl⟩
theorem note_any {w : World} {a g : Nat} {s : Ar} (h : ArIs w a g s) (k x : Int) (wr : Bool) (hx : inR s.W x = true) (ho : s.ops + 1 ≤ 1000000000000) :
    Calls Tryz.prog 153 #[.pointer (some ⟨a, 0, none⟩), .int .i64 k, .int .i64 x, .bool wr] w fun e w' => e = .returned (.tuple #[]) ∧ ArIs w' a g (noteA s k x wr) ∧ Turns [a] w w' := by
  have c2 := h.c2
  have c3 := h.c3
  have c4 := h.c4
  have c5 := h.c5
  have f2 := h.blk.free 2
  have f3 := h.blk.free 3
  have f4 := h.blk.free 4
  have f5 := h.blk.free 5
  have hl := h.blk.lt
  have H := Lib.hid h
  have HX := Lib.hid hx
  clear h hx
  go_enter Tryz.func153, Tryz.ntmps153
  go_wp2
  go_end0
  refine ⟨rfl, ?_, ?_⟩
  · have hb := (((H.out.blk.set_ 2 (.int .i64 (s.ops + 1))).set_ 3 (.int .i64 k)).set_ 4 (.int .i64 x)).set_ 5 (.bool wr)
    have hw := (((H.out.wds.far (p := ⟨a, 2, none⟩) H.out.ne.symm (.int .i64 (s.ops + 1))).far (p := ⟨a, 3, none⟩) H.out.ne.symm (.int .i64 k)).far (p := ⟨a, 4, none⟩) H.out.ne.symm (.int .i64 x)).far (p := ⟨a, 5, none⟩) H.out.ne.symm (.bool wr)
    have e : noteA s k x wr = { s with ops := s.ops + 1, k := k, at_ := x, wr := wr } := by unfold noteA; rw [if_pos HX.out]
    rw [e]
    exact ⟨hb, hw, H.out.ne, H.out.le, H.out.room, ho⟩
  · exact ((((Turns.refl _ _).setCell (.inl (by simp)) _).setCell (.inl (by simp)) _).setCell (.inl (by simp)) _).setCell (.inl (by simp)) _
end Go.Proofs.YtagajjilccjplaaGreat
end
section
set_option linter.unusedVariables false
set_option linter.unusedSimpArgs false
/- Layer 1: what the arena's ops do. -/
namespace Go.Proofs.YtagajjilccjplaaGreat
open Go.RowKit

theorem run_call_swap {P : Program} {f : FuncId} {fn : Func} (hf : P.funcs[f]? = some fn) (hname : (fn.name == "runtime.NumGoroutine") = false) (hb : fn.body.isNone = true) (hn : Extern.findNext fn = none) (k : IntKind)
    (he : Extern.find fn = some (Extern.Atomic.swapT (.int k))) {a : Addr} {x y : Int} {w : World} (hc : w.cell? a = some (.int k x)) (hz : w.frozen? a = false) :
    (callFunc f #[.pointer (some a), .int k y]).run P w = .ok (.value (.int k x)) (w.setCell a (.int k y)) := by
  rw [run_callFunc_extern hf hname hb hn he]
  change (Sem.run P (do
    let a' ← asAddr (.pointer (some a))
    let old ← Extern.Atomic.read (.int k) a'
    store a' (.int k y) .atomic
    pure old) w).andThen _ = _
  simp [Extern.Atomic.read, asAddr, hc, hz, run_store P w a (.int k y) .atomic rfl, Result.andThen]

theorem aload (w : World) (p : Addr) (x : Int) (hc : w.cell? p = some (.int .i64 x)) (hp : p.spot = none) :
    Calls Tryz.prog 74 #[.pointer (some p)] w fun e w' => e = .returned (.int .i64 x) ∧ w = w' := by
  obtain ⟨b, o, sp⟩ := p
  obtain rfl : sp = none := hp
  have hl := run_call_load (P := Tryz.prog) Tryz.func96 (by kernel_rfl) (by kernel_rfl) (by kernel_rfl) .i64 (by kernel_rfl) hc
  clear hc
  go_enter Tryz.func74, Tryz.ntmps74
  go_wp2
  go_ret
  exact ⟨rfl, rfl⟩
theorem aswap (w : World) (b o : Nat) (x y : Int) (hc : w.cell? ⟨b, o, none⟩ = some (.int .i64 x)) (hz : w.frozen? ⟨b, o, none⟩ = false) :
    Calls Tryz.prog 231 #[.pointer (some ⟨b, o, none⟩), .int .i64 y] w fun e w' => e = .returned (.int .i64 x) ∧ w' = w.setCell ⟨b, o, none⟩ (.int .i64 y) := by
  have hl := run_call_swap (P := Tryz.prog) Tryz.func233 (by kernel_rfl) (by kernel_rfl) (by kernel_rfl) .i64 (by kernel_rfl) (y := y) hc hz
  go_enter Tryz.func231, Tryz.ntmps231
  go_wp2
  go_ret
  exact ⟨rfl, rfl⟩
theorem ArIs.put {w : World} {a g : Nat} {s : Ar} (h : ArIs w a g s) {x : Int} (hx : inR s.W x = true) (v : Int) :
    ArIs (w.setCell ⟨g, x.toNat - 1, none⟩ (.int .i64 v)) a g (wrA s x v) ∧ Turns [a, g] w (w.setCell ⟨g, x.toNat - 1, none⟩ (.int .i64 v)) := by
  have h12 := inR_true.1 hx
  refine ⟨⟨?_, ?_, h.ne, ?_, h.room, h.ops⟩, (Turns.refl _ _).setCell (.inl (by simp)) _⟩
  · have := h.blk.far (p := ⟨g, x.toNat - 1, none⟩) h.ne (.int .i64 v)
    have e : arCells g (wrA s x v) = arCells g s := by unfold arCells wrA; rw [stW_len]
    rw [e]; exact this
  · have := h.wds.set_ (x.toNat - 1) (.int .i64 v)
    rw [wdL_set s (by omega)] at this
    have e : wrA s x v = { s with W := s.W.set (x.toNat - 1) v } := by unfold wrA stW; rw [if_pos hx]
    rw [e]; exact this
  · show (stW s.W x v).length ≤ _
    rw [stW_len]; exact h.le
theorem turns_ag {a g : Nat} {w w' : World} (h : Turns [a] w w') : Turns [a, g] w w' := h.mono (by simp)
def OpDone (w : World) (a g : Nat) (s' : Ar) (r : Value) (e : Ending) (w' : World) : Prop := e = .returned r ∧ ArIs w' a g s' ∧ Turns [a, g] w w'

theorem load_any {w : World} {a g : Nat} {s : Ar} (h : ArIs w a g s) (x : Int) (ho : s.ops + 1 ≤ 1000000000000) :
    Calls Tryz.prog 140 #[.pointer (some ⟨a, 0, none⟩), .int .i64 x] w (OpDone w a g (loadA s x) (.int .i64 (ldW s.W x))) := by
  have H := Lib.hid h
  cases hx : inR s.W x
  · have e : OpDone w a g (loadA s x) (.int .i64 (ldW s.W x)) (.returned (.int .i64 0)) w := ⟨by rw [ldW_out hx], by unfold loadA; rw [noteA_out s _ _ _ hx]; exact h, Turns.refl _ _⟩
    have HX := Lib.hid hx
    clear h hx
    go_enter Tryz.func140, Tryz.ntmps140
    go_wp2_with fail
    refine (word_out H.out x HX.out).mono ?_
    rintro en w1 ⟨rfl, rfl⟩
    go_wp2
    go_ret
    exact e
  · have HX := Lib.hid hx
    have HE := Lib.hid (ldW_in hx)
    have h12 := inR_true.1 hx
    have hil : x.toNat - 1 < s.W.length := by omega
    clear h hx
    go_enter Tryz.func140, Tryz.ntmps140
    go_wp2_with fail
    refine (word_in H.out x HX.out).mono ?_
    rintro en w1 ⟨rfl, rfl⟩
    go_wp2_with fail
    refine (note_any H.out 1 x false HX.out ho).mono ?_
    rintro en w1 ⟨rfl, h1, t1⟩
    have hc := (h1.word (i := x.toNat - 1) (by rw [noteA_W]; exact hil)).1
    rw [noteA_W] at hc
    have H1 := Lib.hid (And.intro h1 t1)
    clear h1 t1
    go_wp2_with fail
    refine (aload _ _ _ hc rfl).mono ?_
    rintro en w2 ⟨rfl, rfl⟩
    clear hc
    rw [← HE.out]
    obtain ⟨r, hr⟩ : ∃ r, r = ldW s.W x := ⟨_, rfl⟩
    rw [← hr]
    have HR := Lib.hid hr
    clear hr
    go_wp2
    go_ret
    exact ⟨by rw [HR.out]; rfl, H1.out.1, turns_ag H1.out.2⟩
theorem swap_any {w : World} {a g : Nat} {s : Ar} (h : ArIs w a g s) (x v : Int) (ho : s.ops + 1 ≤ 1000000000000) :
    Calls Tryz.prog 229 #[.pointer (some ⟨a, 0, none⟩), .int .i64 x, .int .i64 v] w (OpDone w a g (swapA s x v) (.int .i64 (ldW s.W x))) := by
  have H := Lib.hid h
  cases hx : inR s.W x
  · have e : OpDone w a g (swapA s x v) (.int .i64 (ldW s.W x)) (.returned (.int .i64 0)) w := ⟨by rw [ldW_out hx], by unfold swapA; rw [noteA_out s _ _ _ hx, wrA_out s _ _ hx]; exact h, Turns.refl _ _⟩
    have HX := Lib.hid hx
    clear h hx
    go_enter Tryz.func229, Tryz.ntmps229
    go_wp2_with fail
    refine (word_out H.out x HX.out).mono ?_
    rintro en w1 ⟨rfl, rfl⟩
    go_wp2
    go_ret
    exact e
  · have HX := Lib.hid hx
    have HE := Lib.hid (ldW_in hx)
    have h12 := inR_true.1 hx
    have hil : x.toNat - 1 < s.W.length := by omega
    clear h hx
    go_enter Tryz.func229, Tryz.ntmps229
    go_wp2_with fail
    refine (word_in H.out x HX.out).mono ?_
    rintro en w1 ⟨rfl, rfl⟩
    go_wp2_with fail
    refine (note_any H.out 3 x true HX.out ho).mono ?_
    rintro en w1 ⟨rfl, h1, t1⟩
    have hc := h1.word (i := x.toNat - 1) (by rw [noteA_W]; exact hil)
    rw [noteA_W] at hc
    have hp := h1.put (x := x) (by rw [noteA_W]; exact HX.out) v
    have H1 := Lib.hid (And.intro hp t1)
    have HC := Lib.hid hc
    clear h1 t1 hp hc
    go_wp2_with fail
    refine (aswap _ _ _ _ _ HC.out.1 HC.out.2).mono ?_
    rintro en w2 ⟨rfl, rfl⟩
    rw [← HE.out]
    obtain ⟨r, hr⟩ : ∃ r, r = ldW s.W x := ⟨_, rfl⟩
    rw [← hr]
    have HR := Lib.hid hr
    clear hr
    go_wp2
    go_ret
    exact ⟨by rw [HR.out]; rfl, H1.out.1.1, (turns_ag H1.out.2).trans H1.out.1.2⟩
end Go.Proofs.YtagajjilccjplaaGreat
end
section
set_option linter.unusedVariables false
set_option linter.unusedSimpArgs false
/- Layer 1: what Store does. -/
namespace Go.Proofs.YtagajjilccjplaaGreat
open Go.RowKit

theorem astore (w : World) (b o : Nat) (x y : Int) (hc : w.cell? ⟨b, o, none⟩ = some (.int .i64 x)) (hz : w.frozen? ⟨b, o, none⟩ = false) :
    Calls Tryz.prog 154 #[.pointer (some ⟨b, o, none⟩), .int .i64 y] w fun e w' => e = .returned (.tuple #[]) ∧ w' = w.setCell ⟨b, o, none⟩ (.int .i64 y) := by
  have hl := run_call_store (P := Tryz.prog) Tryz.func159 (by kernel_rfl) (by kernel_rfl) (by kernel_rfl) (by kernel_rfl) (k := .i64) (y := y) hc hz
  go_enter Tryz.func154, Tryz.ntmps154
  go_wp2
  go_end0
  exact ⟨rfl, rfl⟩
theorem store_any {w : World} {a g : Nat} {s : Ar} (h : ArIs w a g s) (x v : Int) (ho : s.ops + 1 ≤ 1000000000000) :
    Calls Tryz.prog 144 #[.pointer (some ⟨a, 0, none⟩), .int .i64 x, .int .i64 v] w (OpDone w a g (storeA s x v) (.tuple #[])) := by
  have H := Lib.hid h
  cases hx : inR s.W x
  · have e : OpDone w a g (storeA s x v) (.tuple #[]) (.returned (.tuple #[])) w := ⟨rfl, by unfold storeA; rw [noteA_out s _ _ _ hx, wrA_out s _ _ hx]; exact h, Turns.refl _ _⟩
    have HX := Lib.hid hx
    clear h hx
    go_enter Tryz.func144, Tryz.ntmps144
    go_wp2_with fail
    refine (word_out H.out x HX.out).mono ?_
    rintro en w1 ⟨rfl, rfl⟩
    go_wp2
    go_end0
    exact e
  · have HX := Lib.hid hx
    have h12 := inR_true.1 hx
    have hil : x.toNat - 1 < s.W.length := by omega
    clear h hx
    go_enter Tryz.func144, Tryz.ntmps144
    go_wp2_with fail
    refine (word_in H.out x HX.out).mono ?_
    rintro en w1 ⟨rfl, rfl⟩
    go_wp2_with fail
    refine (note_any H.out 2 x true HX.out ho).mono ?_
    rintro en w1 ⟨rfl, h1, t1⟩
    have hc := h1.word (i := x.toNat - 1) (by rw [noteA_W]; exact hil)
    have hp := h1.put (x := x) (by rw [noteA_W]; exact HX.out) v
    have H1 := Lib.hid (And.intro hp t1)
    have HC := Lib.hid hc
    clear h1 t1 hp hc
    go_wp2_with fail
    refine (astore _ _ _ _ _ HC.out.1 HC.out.2).mono ?_
    rintro en w2 ⟨rfl, rfl⟩
    go_wp2
    go_end0
    exact ⟨rfl, H1.out.1.1, (turns_ag H1.out.2).trans H1.out.1.2⟩
end Go.Proofs.YtagajjilccjplaaGreat
end
section
set_option linter.unusedVariables false
set_option linter.unusedSimpArgs false
/- Layer 1: what Cas does. -/
namespace Go.Proofs.YtagajjilccjplaaGreat
open Go.RowKit

theorem acas_hit (w : World) (b o : Nat) (x y : Int) (hc : w.cell? ⟨b, o, none⟩ = some (.int .i64 x)) (hz : w.frozen? ⟨b, o, none⟩ = false) :
    Calls Tryz.prog 232 #[.pointer (some ⟨b, o, none⟩), .int .i64 x, .int .i64 y] w fun e w' => e = .returned (.bool true) ∧ w' = w.setCell ⟨b, o, none⟩ (.int .i64 y) := by
  have hl := run_call_cas_hit (P := Tryz.prog) Tryz.func234 (by kernel_rfl) (by kernel_rfl) (by kernel_rfl) .i64 (by kernel_rfl) (y := y) hc hz
  go_enter Tryz.func232, Tryz.ntmps232
  go_wp2
  go_ret
  exact ⟨rfl, rfl⟩
theorem acas_miss (w : World) (b o : Nat) (x old y : Int) (hc : w.cell? ⟨b, o, none⟩ = some (.int .i64 x)) (hz : w.frozen? ⟨b, o, none⟩ = false) (hne : ¬ x = old) :
    Calls Tryz.prog 232 #[.pointer (some ⟨b, o, none⟩), .int .i64 old, .int .i64 y] w fun e w' => e = .returned (.bool false) ∧ w = w' := by
  have hl := run_call_cas_miss (P := Tryz.prog) Tryz.func234 (by kernel_rfl) (by kernel_rfl) (by kernel_rfl) .i64 (by kernel_rfl) (o := old) (y := y) hc hz hne
  clear hne
  go_enter Tryz.func232, Tryz.ntmps232
  go_wp2
  go_ret
  exact ⟨rfl, rfl⟩

theorem cas_any {w : World} {a g : Nat} {s : Ar} (h : ArIs w a g s) (x old v : Int) (ho : s.ops + 1 ≤ 1000000000000) :
    Calls Tryz.prog 230 #[.pointer (some ⟨a, 0, none⟩), .int .i64 x, .int .i64 old, .int .i64 v] w (OpDone w a g (casA s x old v) (.bool (casB s x old))) := by
  have H := Lib.hid h
  cases hx : inR s.W x
  · have e : OpDone w a g (casA s x old v) (.bool (casB s x old)) (.returned (.bool false)) w := ⟨by unfold casB; rw [hx]; rfl, by
      have hb : casB s x old = false := by unfold casB; rw [hx]; rfl
      unfold casA; rw [hb, noteA_out s 4 x false hx]; exact h, Turns.refl _ _⟩
    have HX := Lib.hid hx
    clear h hx
    go_enter Tryz.func230, Tryz.ntmps230
    go_wp2_with fail
    refine (word_out H.out x HX.out).mono ?_
    rintro en w1 ⟨rfl, rfl⟩
    go_wp2
    go_ret
    exact e
  · have HX := Lib.hid hx
    have h12 := inR_true.1 hx
    have hil : x.toNat - 1 < s.W.length := by omega
    have hc := h.word (i := x.toNat - 1) hil
    rw [← ldW_in hx] at hc
    by_cases heq : ldW s.W x = old
    · have hb : casB s x old = true := by unfold casB; rw [hx, heq]; simp
      have hp := h.put hx v
      have HP := Lib.hid (And.intro hp hb)
      rw [heq] at hc
      have HC := Lib.hid hc
      clear h hx hc hp heq hb
      go_enter Tryz.func230, Tryz.ntmps230
      go_wp2_with fail
      refine (word_in H.out x HX.out).mono ?_
      rintro en w1 ⟨rfl, rfl⟩
      go_wp2_with fail
      refine (acas_hit _ _ _ _ _ HC.out.1 HC.out.2).mono ?_
      rintro en w2 ⟨rfl, rfl⟩
      have h2 := HP.out.1.1
      have t2 := HP.out.1.2
      generalize (w.setCell ⟨g, x.toNat - 1, none⟩ (.int .i64 v)) = w2 at h2 t2 ⊢
      have H2 := Lib.hid (And.intro h2 t2)
      clear h2 t2
      go_wp2_with fail
      refine (note_any H2.out.1 4 x true (by unfold inR wrA; rw [stW_len]; exact HX.out) ho).mono ?_
      rintro en w3 ⟨rfl, h3, t3⟩
      have H3 := Lib.hid (And.intro h3 t3)
      clear h3 t3
      go_wp2
      go_ret
      refine ⟨by rw [HP.out.2]; rfl, ?_, H2.out.2.trans (turns_ag H3.out.2)⟩
      have e : casA s x old v = noteA (wrA s x v) 4 x true := by
        unfold casA; rw [HP.out.2, if_pos rfl]
        unfold noteA
        rw [if_pos HX.out, if_pos (by unfold inR wrA; rw [stW_len]; exact HX.out)]
        rfl
      rw [e]; exact H3.out.1
    · have hb : casB s x old = false := by unfold casB; rw [hx]; simpa using heq
      have HC := Lib.hid (And.intro hc (And.intro heq hb))
      clear h hx hc heq hb
      go_enter Tryz.func230, Tryz.ntmps230
      go_wp2_with fail
      refine (word_in H.out x HX.out).mono ?_
      rintro en w1 ⟨rfl, rfl⟩
      go_wp2_with fail
      refine (acas_miss _ _ _ _ _ _ HC.out.1.1 HC.out.1.2 HC.out.2.1).mono ?_
      rintro en w2 ⟨rfl, rfl⟩
      go_wp2_with fail
      refine (note_any H.out 4 x false HX.out ho).mono ?_
      rintro en w3 ⟨rfl, h3, t3⟩
      have H3 := Lib.hid (And.intro h3 t3)
      clear h3 t3
      go_wp2
      go_ret
      refine ⟨by rw [HC.out.2.2]; rfl, ?_, turns_ag H3.out.2⟩
      unfold casA
      rw [HC.out.2.2]
      exact H3.out.1
end Go.Proofs.YtagajjilccjplaaGreat
end
