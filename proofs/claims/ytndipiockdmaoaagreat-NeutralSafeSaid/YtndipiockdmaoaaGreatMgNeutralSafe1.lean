/- Joined: JfP, Base, Ev1, Open, Open3, OpenP, Pl, FlP, FlN. -/
import Derived.Test.YtndipiockdmaoaaGreatRows
import Derived.WalkKit
import Derived.ProofKit
import Derived.ChangeOld
import Derived.WalkSpells
import Derived.WalkLawsBesides
import Derived.Below
import Derived.Outline
import Derived.Lib.Hide
import Derived.Deep.QuietTactic
import Derived.BigQuiet
import Derived.Deep.Draws
import Derived.Maps.OwnSet
import Derived.Maps.OwnOps
import Derived.OpenShut
import Derived.Deep.Slices
import Derived.Deep.Fields
import Derived.ChangeSame
import Derived.Carry
import GoSem.Core.View
import Derived.IntWalk
section
set_option linter.unusedVariables false
set_option linter.unusedSimpArgs false
/- Closed facts of the whole cut, once for all laws of a great seat. -/
namespace Go.Proofs.YtndipiockdmaoaaGreat
open Go.ChangeShapes Go.WideShapes Go.ChangeAt Go.RowKit
theorem laidOutP : laidOutB Tryz.pinned.checked.prog = true := by kernel_rfl
theorem mapsRowedP : mapsRowed Tryz.pinned.checked.prog = true := by kernel_rfl
theorem stopsHeardP : (Tryz.pinned.checked.prog).stopsHeard = true := by kernel_rfl
theorem mayEnterP : (Tryz.pinned.checked.prog).mayEnter = true := by kernel_rfl
end Go.Proofs.YtndipiockdmaoaaGreat
end
section
set_option linter.unusedVariables false
set_option linter.unusedSimpArgs false
/-
  Words for memory that my walks share: a slice that reads as a list of elements (RdL), a call that only reads (Qt), small laws on the two. No program in sight.
-/
namespace Go.Proofs.YtndipiockdmaoaaGreat
open Go.RowKit

/-- The slice value v reads as the list l in w: sz cells an element, by enc. -/
def RdL {α : Type} (w : World) (v : Value) (sz : Nat) (enc : α → List Value) (l : List α) : Prop :=
  ∃ A cap, v = .slice A l.length cap ∧ l.length ≤ cap ∧ l.length ≤ 140737488355328 ∧
    (0 < l.length → ∃ b off, A = some ⟨b, off, none⟩ ∧ b < w.heap.size ∧ ∀ i x, l[i]? = some x → ∀ j u, (enc x)[j]? = some u → w.cell? ⟨b, off + i * sz + j, none⟩ = some u)

def Qt (w w' : World) : Prop := ∃ n, w' = w.drewN n

theorem Qt.refl (w : World) : Qt w w := ⟨0, rfl⟩
theorem Qt.trans {a b c : World} (h : Qt a b) (k : Qt b c) : Qt a c := by
  obtain ⟨n, rfl⟩ := h; obtain ⟨m, rfl⟩ := k
  exact ⟨n + m, by rw [World.drewN_drewN]⟩
theorem below_drewN {B : Nat} {a w : World} (h : Below B a w) (n : Nat) : Below B a (w.drewN n) := ⟨h.os, h.tape, h.output, h.size, h.block⟩
theorem Qt.below {w w' : World} (h : Qt w w') (B : Nat) : Below B w w' := by
  obtain ⟨n, rfl⟩ := h
  exact below_drewN (Below.refl _ _) n
theorem cell_drewN (w : World) (n : Nat) (a : Addr) : (w.drewN n).cell? a = w.cell? a := rfl

theorem block_lt_of_cell {w : World} {a : Addr} {v : Value} (h : w.cell? a = some v) : a.block < w.heap.size := World.block_lt_of_cell? w a h

section
variable {α : Type} {w w' : World} {v : Value} {sz : Nat} {enc : α → List Value} {l : List α}
theorem RdL.keep (h : RdL w v sz enc l) (hs : w.heap.size ≤ w'.heap.size) (hk : ∀ p : Addr, p.block < w.heap.size → w'.cell? p = w.cell? p) : RdL w' v sz enc l := by
  obtain ⟨A, cap, h1, h2, h3, h4⟩ := h
  refine ⟨A, cap, h1, h2, h3, fun hn => ?_⟩
  obtain ⟨b, off, e, hb, hc⟩ := h4 hn
  exact ⟨b, off, e, by omega, fun i x hx j u hu => (hk _ hb).trans (hc i x hx j u hu)⟩
theorem RdL.below (h : RdL w v sz enc l) {B : Nat} (hb : Below B w w') (hB : w.heap.size ≤ B) : RdL w' v sz enc l :=
  h.keep hb.size fun p hp => hb.cell (by omega)
theorem RdL.drewN (h : RdL w v sz enc l) (n : Nat) : RdL (w.drewN n) v sz enc l := h
theorem RdL.qt (h : RdL w v sz enc l) (q : Qt w w') : RdL w' v sz enc l := by
  obtain ⟨n, rfl⟩ := q; exact h
theorem RdL.alloc (h : RdL w v sz enc l) (o : Obj) : RdL (w.alloc o) v sz enc l := h.keep (by simp) fun p hp => World.cell?_alloc_lt w o p hp
theorem RdL.setCell (h : RdL w v sz enc l) {B : Nat} (hb : ∀ b off cap, v = .slice (some ⟨b, off, none⟩) l.length cap → b < B) {p : Addr} (hp : B ≤ p.block) (u : Value) : RdL (w.setCell p u) v sz enc l := by
  obtain ⟨A, cap, h1, h2, h3, h4⟩ := h
  refine ⟨A, cap, h1, h2, h3, fun hn => ?_⟩
  obtain ⟨b, off, e, hbb, hc⟩ := h4 hn
  have hlt : b < B := hb b off cap (by rw [h1, e])
  exact ⟨b, off, e, by simpa [World.setCell] using hbb, fun i x hx j u' hu => (World.cell?_setCell_other w p _ u (fun e => by subst e; simp at hp; omega)).trans (hc i x hx j u' hu)⟩
theorem RdL.nil : RdL w (.slice none 0 0) sz enc [] := ⟨none, 0, rfl, by simp, by simp, by simp⟩
end

/-- the cells of a list of elements, one behind the other -/
theorem getElem?_flatMap {α : Type} (enc : α → List Value) (sz : Nat) (hs : ∀ x, (enc x).length = sz) (l : List α) :
    ∀ i x j u, l[i]? = some x → (enc x)[j]? = some u → (l.flatMap enc)[i * sz + j]? = some u := by
  induction l with
  | nil => intro i x j u h; simp at h
  | cons a l ih =>
    intro i x j u h hu
    have hj : j < sz := by have := (List.getElem?_eq_some_iff.1 hu).1; rw [hs] at this; exact this
    cases i with
    | zero =>
      simp at h; subst h
      rw [List.flatMap_cons, List.getElem?_append_left (by rw [hs]; omega)]
      simpa using hu
    | succ i =>
      rw [List.flatMap_cons, List.getElem?_append_right (by rw [hs, Nat.succ_mul]; omega), hs]
      have : (i + 1) * sz + j - sz = i * sz + j := by rw [Nat.succ_mul]; omega
      rw [this]
      exact ih i x j u (by simpa using h) hu
theorem length_flatMap_enc {α : Type} (enc : α → List Value) (sz : Nat) (hs : ∀ x, (enc x).length = sz) (l : List α) : (l.flatMap enc).length = l.length * sz := by
  induction l with
  | nil => simp
  | cons a l ih => rw [List.flatMap_cons, List.length_append, ih, hs, List.length_cons, Nat.succ_mul]; omega

/-- what a call owns reads as a list -/
theorem RdL.of_own {α : Type} {w : World} {base : Nat} {e : TypeId} {sz : Nat} {v : Value} {n : Nat} {enc : α → List Value} {l : List α} (hs : ∀ x, (enc x).length = sz)
    (hn : n = l.length) (hcap : l.length ≤ 140737488355328) (h : w.ownsRow base e sz v n (l.flatMap enc)) : RdL w v sz enc l := by
  subst hn
  rcases h.2 with ⟨rfl, h0⟩ | ⟨g, cap, cur, rfl, hb, hg, hnc, hcm, hcs, ht⟩
  · have : l = [] := List.eq_nil_of_length_eq_zero h0
    subst this
    exact RdL.nil
  · refine ⟨some ⟨g, 0, none⟩, cap, rfl, hnc, hcap, fun _ => ⟨g, 0, rfl, (Array.getElem?_eq_some_iff.1 hg).1, ?_⟩⟩
    intro i x hx j u hu
    have hc := h.cells (g := g) rfl (i * sz + j) u (getElem?_flatMap enc sz hs l i x j u hx hu)
    have hadd : (⟨g, 0, none⟩ : Addr).add (i * sz + j) = ⟨g, 0 + i * sz + j, none⟩ := by
      unfold Addr.add; split <;> simp_all
    rw [hadd] at hc
    exact hc
theorem getElem?_lt {α : Type} {l : List α} {k : Nat} (h : k < l.length) : ∃ x, l[k]? = some x := ⟨l[k], List.getElem?_eq_getElem h⟩
theorem take_succ_of {α : Type} {l : List α} {k : Nat} {x : α} (h : l[k]? = some x) : l.take (k + 1) = l.take k ++ [x] := by
  rw [List.take_add_one, h]; rfl
theorem quiet_left {P : Program} {f : FuncId} {args : Array Value} {w : World} {n : Nat} {v : Value}
    (h : Calls P f args (w.drewN n) fun e w' => e = .returned v ∧ w.drewN n = w') : Calls P f args (w.drewN n) fun e w'' => e = .returned v ∧ ∃ m, w'' = w.drewN m :=
  h.mono fun _ _ ⟨he, hm⟩ => ⟨he, n, hm.symm⟩
theorem quiet_qt {P : Program} {f : FuncId} {args : Array Value} {w : World} {n : Nat} {v : Value}
    (h : Calls P f args (w.drewN n) fun e w' => e = .returned v ∧ Qt (w.drewN n) w') : Calls P f args (w.drewN n) fun e w'' => e = .returned v ∧ ∃ m, w'' = w.drewN m :=
  h.mono fun _ _ ⟨he, m, hm⟩ => ⟨he, n + m, by rw [hm, World.drewN_drewN]⟩
theorem quiet_add_left {P : Program} {f : FuncId} {args : Array Value} {w : World} {a n : Nat} {v : Value}
    (h : Calls P f args (w.drewN (a + n)) fun e w' => e = .returned v ∧ w.drewN (a + n) = w') :
    Calls P f args (w.drewN (a + n)) fun e w'' => e = .returned v ∧ ∃ m, w'' = w.drewN (a + m) :=
  h.mono fun _ _ ⟨he, hm⟩ => ⟨he, n, hm.symm⟩
theorem quiet_add_qt {P : Program} {f : FuncId} {args : Array Value} {w : World} {a n : Nat} {v : Value}
    (h : Calls P f args (w.drewN (a + n)) fun e w' => e = .returned v ∧ Qt (w.drewN (a + n)) w') :
    Calls P f args (w.drewN (a + n)) fun e w'' => e = .returned v ∧ ∃ m, w'' = w.drewN (a + m) :=
  h.mono fun _ _ ⟨he, m, hm⟩ => ⟨he, n + m, by rw [hm, World.drewN_drewN, Nat.add_assoc]⟩

def encI (z : Int) : List Value := [.int .i64 z]
theorem encI_len (z : Int) : (encI z).length = 1 := rfl
/-- a block known whole -/
def Blk (w : World) (g : Nat) (t : TypeId) (cs : Array Value) : Prop := w.heap[g]? = some (.cells cs t (0, 0))
section
variable {w w' : World} {g : Nat} {t : TypeId} {cs : Array Value}
theorem Blk.lt (h : Blk w g t cs) : g < w.heap.size := lt_of_block h
theorem Blk.cell (h : Blk w g t cs) (i : Nat) : w.cell? ⟨g, i, none⟩ = cs[i]? := cell_of_row w g i cs t (0, 0) h
theorem Blk.free (h : Blk w g t cs) (i : Nat) : w.frozen? ⟨g, i, none⟩ = false := by unfold Blk at h; simp [World.frozen?, h]
theorem Blk.new (w : World) (t : TypeId) (cs : Array Value) : Blk (w.alloc (.cells cs t)) w.heap.size t cs := heap_alloc_new w _
theorem Blk.new' (w : World) (t : TypeId) (cs : Array Value) {g : Nat} (hg : g = w.heap.size) : Blk (w.alloc (.cells cs t)) g t cs := by subst hg; exact heap_alloc_new w _
theorem Blk.drewN (h : Blk w g t cs) (n : Nat) : Blk (w.drewN n) g t cs := h
theorem Blk.drew (h : Blk w g t cs) : Blk w.drew g t cs := h
theorem Blk.alloc (h : Blk w g t cs) (o : Obj) : Blk (w.alloc o) g t cs := (Below.heap_alloc w o g h.lt).trans h
theorem Blk.set_ (h : Blk w g t cs) (i : Nat) (u : Value) : Blk (w.setCell ⟨g, i, none⟩ u) g t (cs.setIfInBounds i u) := by
  unfold Blk at h ⊢
  simp [World.setCell, Array.getElem?_modify, h]
theorem Blk.far (h : Blk w g t cs) {p : Addr} (hp : g ≠ p.block) (u : Value) : Blk (w.setCell p u) g t cs := (Below.heap_setCell w p u g hp).trans h
theorem Blk.below {B : Nat} (h : Blk w g t cs) (hb : Below B w w') (hg : g < B) : Blk w' g t cs := (hb.block g hg).trans h
theorem Blk.grown {row : Option Nat} (h : Blk w g t cs) (hb : w.grownBy w' row) (hg : some g ≠ row) : Blk w' g t cs := (hb.block g h.lt hg).trans h
end
theorem grown_refl (w : World) (row : Option Nat) : w.grownBy w row := ⟨rfl, rfl, rfl, Nat.le_refl _, fun _ _ _ => rfl⟩
theorem grown_alloc {a w : World} {row : Option Nat} (h : a.grownBy w row) (o : Obj) : a.grownBy (w.alloc o) row :=
  ⟨h.os, h.tape, h.output, Nat.le_trans h.size (by simp), fun i hi hne => (Below.heap_alloc w o i (Nat.lt_of_lt_of_le hi h.size)).trans (h.block i hi hne)⟩
theorem grown_set {a w : World} {g : Nat} (h : a.grownBy w (some g)) (o : Nat) (u : Value) : a.grownBy (w.setCell ⟨g, o, none⟩ u) (some g) :=
  ⟨h.os, h.tape, h.output, by simpa [World.setCell] using h.size, fun i hi hne => (Below.heap_setCell w ⟨g, o, none⟩ u i (by
    rintro rfl
    exact hne rfl)).trans (h.block i hi hne)⟩
theorem grown_drewN {a w : World} {row : Option Nat} (h : a.grownBy w row) (n : Nat) : a.grownBy (w.drewN n) row := ⟨h.os, h.tape, h.output, h.size, h.block⟩
theorem grown_trans {a b c : World} {row : Option Nat} (h : a.grownBy b row) (k : b.grownBy c row) : a.grownBy c row :=
  ⟨k.os.trans h.os, k.tape.trans h.tape, k.output.trans h.output, Nat.le_trans h.size k.size, fun i hi hne => (k.block i (Nat.lt_of_lt_of_le hi h.size) hne).trans (h.block i hi hne)⟩
theorem grown_of_below {a w : World} (h : Below a.heap.size a w) (row : Option Nat) : a.grownBy w row := ⟨h.os, h.tape, h.output, h.size, fun i hi _ => h.block i hi⟩
theorem eq_of_take {α : Type} {a b : List α} (hn : a.length = b.length) (h : a.take a.length = b.take a.length) : a = b := by
  rw [List.take_length] at h
  rw [h, hn, List.take_length]
def encP (p : Int × Int) : List Value := [.int .i64 p.1, .int .i64 p.2]
theorem encP_len (p : Int × Int) : (encP p).length = 2 := rfl
theorem ret_bool {a b : Bool} (h : a = b) : Ending.returned (.bool a) = .returned (.bool b) := by rw [h]
theorem ret_int {k : IntKind} {a b : Int} (h : a = b) : Ending.returned (.int k a) = .returned (.int k b) := by rw [h]
theorem own_form {w : World} {base : Nat} {e : TypeId} {sz : Nat} {v : Value} {n : Nat} {xs : List Value} (h : w.ownsRow base e sz v n xs) : ∃ A c, v = .slice A n c := by
  rcases h.2 with ⟨rfl, rfl⟩ | ⟨g, cap, cur, rfl, _⟩
  · exact ⟨_, _, rfl⟩
  · exact ⟨_, _, rfl⟩
theorem own_form1 {w : World} {base : Nat} {e : TypeId} {sz : Nat} {v : Value} {n : Nat} {xs : List Value} (h : w.ownsRow base e sz v n xs) (hn : 0 < n) :
    ∃ g c, v = .slice (some ⟨g, 0, none⟩) n c ∧ base ≤ g ∧ g < w.heap.size := by
  rcases h.2 with ⟨rfl, rfl⟩ | ⟨g, cap, cur, rfl, hb, hg, _⟩
  · omega
  · exact ⟨_, _, rfl, hb, (Array.getElem?_eq_some_iff.1 hg).1⟩
end Go.Proofs.YtndipiockdmaoaaGreat
end
section
set_option linter.unusedVariables false
set_option linter.unusedSimpArgs false
/- Events and stays as plain data, and how a tally's round turns them. No program in sight. -/
namespace Go.Proofs.YtndipiockdmaoaaGreat
open Go.RowKit Go.Maps

structure Ev where
  kind : Int
  thread : Int
  read : Bool
  count : Int
structure Stay where
  thread : Int
  read : Bool
  ask : Int
  enter : Int
  exit : Int
  rest : Int
  count : Int
instance : DecidableEq Ev := fun a b => decidable_of_iff (a.kind = b.kind ∧ a.thread = b.thread ∧ a.read = b.read ∧ a.count = b.count) (by cases a; cases b; simp)
instance : DecidableEq Stay := fun a b => decidable_of_iff (a.thread = b.thread ∧ a.read = b.read ∧ a.ask = b.ask ∧ a.enter = b.enter ∧ a.exit = b.exit ∧ a.rest = b.rest ∧ a.count = b.count) (by cases a; cases b; simp)

def encE (e : Ev) : List Value := [.int .i64 e.kind, .int .i64 e.thread, .bool e.read, .int .i64 e.count]
def encS (s : Stay) : List Value := [.int .i64 s.thread, .bool s.read, .int .i64 s.ask, .int .i64 s.enter, .int .i64 s.exit, .int .i64 s.rest, .int .i64 s.count]
theorem encE_len (e : Ev) : (encE e).length = 4 := rfl
theorem encS_len (s : Stay) : (encS s).length = 7 := rfl
theorem encS_one (s : Stay) : ∀ u ∈ encS s, u.oneCell' = true := by
  intro u hu; simp [encS] at hu; rcases hu with rfl | rfl | rfl | rfl | rfl | rfl | rfl <;> rfl
theorem encE_one (s : Ev) : ∀ u ∈ encE s, u.oneCell' = true := by
  intro u hu; simp [encE] at hu; rcases hu with rfl | rfl | rfl | rfl <;> rfl

/-- one cell of one element of a row written -/
theorem flatMap_set {α : Type} (enc : α → List Value) (sz : Nat) (hs : ∀ x, (enc x).length = sz) (l : List α) :
    ∀ k x x' j u, l[k]? = some x → j < sz → (enc x).set j u = enc x' → (l.flatMap enc).set (k * sz + j) u = (l.set k x').flatMap enc := by
  induction l with
  | nil => intro k x x' j u h; simp at h
  | cons a l ih =>
    intro k x x' j u h hj he
    cases k with
    | zero =>
      simp at h; subst h
      rw [List.set_cons_zero, List.flatMap_cons, List.flatMap_cons, List.set_append_left _ _ (by rw [hs]; omega)]
      simp [he]
    | succ k =>
      rw [List.set_cons_succ, List.flatMap_cons, List.flatMap_cons, List.set_append_right _ _ (by rw [hs, Nat.succ_mul]; omega), hs]
      have : (k + 1) * sz + j - sz = k * sz + j := by rw [Nat.succ_mul]; omega
      rw [this, ih k x x' j u (by simpa using h) hj he]

def noteOk (s : Stay) (e : Ev) : Bool := decide ((e.kind = 2 ∧ s.enter < 0) ∨ (e.kind = 3 ∧ 0 ≤ s.enter ∧ s.exit < 0) ∨ (e.kind = 4 ∧ 0 ≤ s.exit))
def noteS (s : Stay) (k : Int) (e : Ev) : Stay :=
  if e.kind = 2 ∧ s.enter < 0 then { s with enter := k, count := e.count }
  else if e.kind = 3 ∧ 0 ≤ s.enter ∧ s.exit < 0 then { s with exit := k }
  else if e.kind = 4 ∧ 0 ≤ s.exit then { s with rest := k } else s
def newS (k : Int) (e : Ev) : Stay := { thread := e.thread, read := e.read, ask := k, enter := -1, exit := -1, rest := -1, count := 0 }
def actS (t : Int) (s : Stay) : Bool := decide (s.thread = t ∧ s.rest < 0)
def openOf (out : List Stay) (t : Int) : Option Nat := out.findIdx? (actS t)
def tstep (out : List Stay) (k : Int) (e : Ev) : List Stay :=
  match openOf out e.thread with
  | none => if e.kind = 1 then out ++ [newS k e] else out
  | some i => match out[i]? with
    | some s => out.set i (noteS s k e)
    | none => out
def tallyTo (l : List Ev) : Nat → List Stay
  | 0 => []
  | k + 1 => match l[k]? with
    | some e => tstep (tallyTo l k) k e
    | none => tallyTo l k
def tallyL (l : List Ev) : List Stay := tallyTo l l.length

def Uniq (out : List Stay) : Prop := ∀ (i j : Nat) (a b : Stay), out[i]? = some a → out[j]? = some b → a.thread = b.thread → a.rest < 0 → b.rest < 0 → i = j
theorem uniq_nil : Uniq [] := by intro i j a b h; simp at h
theorem openOf_some {out : List Stay} {t : Int} {i : Nat} {s : Stay} (hu : Uniq out) (h : out[i]? = some s) (ht : s.thread = t) (hr : s.rest < 0) : openOf out t = some i := by
  unfold openOf
  have hi : i < out.length := (List.getElem?_eq_some_iff.1 h).1
  rw [List.findIdx?_eq_some_iff_getElem]
  have hs : out[i] = s := (List.getElem?_eq_some_iff.1 h).2
  refine ⟨hi, by simp [actS, hs, ht, hr], fun j hj => ?_⟩
  intro hc
  simp only [actS, decide_eq_true_eq] at hc
  have := hu j i out[j] s (List.getElem?_eq_getElem (by omega)) h (by rw [hc.1, ht]) hc.2 hr
  omega
theorem openOf_none {out : List Stay} {t : Int} (h : ∀ (i : Nat) (s : Stay), out[i]? = some s → s.thread = t → ¬ s.rest < 0) : openOf out t = none := by
  unfold openOf
  rw [List.findIdx?_eq_none_iff]
  intro s hs
  obtain ⟨i, hi⟩ := List.getElem?_of_mem hs
  simp only [actS, decide_eq_false_iff_not]
  rintro ⟨a, b⟩
  exact h i s hi a b

def keyI (t : Int) : Lit := .int .i64 t
def MapIs (D : DataW Unit) (out : List Stay) : Prop :=
  IsMap D ∧ Uniq out ∧ ∀ t, (Maps.has D (keyI t) = true → ∃ (k : Nat) (s : Stay), out[k]? = some s ∧ s.thread = t ∧ s.rest < 0 ∧ D.atKey (keyI t) (.lit (.int .i64 0)) = .lit (.int .i64 (k : Int))) ∧
    (Maps.has D (keyI t) = false → ∀ (k : Nat) (s : Stay), out[k]? = some s → s.thread = t → ¬ s.rest < 0)
theorem mapIs_nil : MapIs (.map []) [] := by
  refine ⟨isMap_empty, uniq_nil, fun t => ⟨fun h => by simp [Maps.has] at h, fun _ k s h => by simp at h⟩⟩
theorem keyI_ne {a b : Int} (h : a ≠ b) : keyI a ≠ keyI b := by
  intro he; exact h (by injection he)

theorem getElem?_snoc {α : Type} (l : List α) (x : α) (i : Nat) : (l ++ [x])[i]? = if i < l.length then l[i]? else if i = l.length then some x else none := by
  split
  · rw [List.getElem?_append_left (by omega)]
  · split
    · subst i; simp
    · rw [List.getElem?_eq_none]; simp; omega

theorem mapIs_ask {D : DataW Unit} {out : List Stay} {e : Ev} {k : Int} (h : MapIs D out) (hn : Maps.has D (keyI e.thread) = false) (hk : e.kind = 1) :
    tstep out k e = out ++ [newS k e] ∧ MapIs (D.put (keyI e.thread) (.lit (.int .i64 (out.length : Int)))) (out ++ [newS k e]) := by
  obtain ⟨hm, hu, hD⟩ := h
  have h0 := (hD e.thread).2 hn
  refine ⟨by unfold tstep; rw [openOf_none h0]; simp [hk], hm.put _ _, ?_, fun t => ?_⟩
  · intro i j a b ha hb hab hra hrb
    rw [getElem?_snoc] at ha hb
    split at ha <;> split at hb
    · exact hu i j a b ha hb hab hra hrb
    · split at hb
      · simp at hb; subst hb
        exact absurd hra (h0 i a ha hab)
      · cases hb
    · split at ha
      · simp at ha; subst ha
        exact absurd hrb (h0 j b hb hab.symm)
      · cases ha
    · split at ha
      · split at hb
        · omega
        · cases hb
      · cases ha
  · by_cases ht : t = e.thread
    · subst ht
      refine ⟨fun _ => ⟨out.length, newS k e, by simp, rfl, by simp [newS], atKey_put_same hm (by trivial) _ _⟩, fun hf => ?_⟩
      rw [has_put_same hm (by trivial)] at hf
      cases hf
    · rw [has_put_other (keyI_ne ht), atKey_put_other (keyI_ne ht)]
      refine ⟨fun hh => ?_, fun hh i s hs hst => ?_⟩
      · obtain ⟨i, s, hs, r⟩ := (hD t).1 hh
        refine ⟨i, s, ?_, r⟩
        rw [getElem?_snoc, if_pos (List.getElem?_eq_some_iff.1 hs).1]; exact hs
      · rw [getElem?_snoc] at hs
        split at hs
        · exact (hD t).2 hh i s hs hst
        · split at hs
          · simp at hs; subst hs; exact absurd hst.symm ht
          · cases hs
theorem mapIs_skip {D : DataW Unit} {out : List Stay} {e : Ev} {k : Int} (h : MapIs D out) (hn : Maps.has D (keyI e.thread) = false) (hk : ¬ e.kind = 1) : tstep out k e = out := by
  unfold tstep; rw [openOf_none ((h.2.2 e.thread).2 hn)]; simp [hk]

theorem noteS_thread (s : Stay) (k : Int) (e : Ev) : (noteS s k e).thread = s.thread := by unfold noteS; split <;> (try split) <;> (try split) <;> rfl
theorem noteS_rest (s : Stay) (k : Int) (e : Ev) (h : noteOk s e = false ∨ ¬ e.kind = 4) : (noteS s k e).rest = s.rest := by
  unfold noteS
  split
  · rfl
  · split
    · rfl
    · split
      · rename_i h1 h2 h3
        rcases h with h | h
        · simp [noteOk] at h; omega
        · omega
      · rfl
theorem noteS_done (s : Stay) (k : Int) (e : Ev) (h : noteOk s e = true) (h4 : e.kind = 4) : noteS s k e = { s with rest := k } := by
  unfold noteS noteOk at *
  simp only [decide_eq_true_eq] at h
  rw [if_neg (by omega), if_neg (by omega), if_pos (by omega)]

theorem mapIs_note {D : DataW Unit} {out : List Stay} {e : Ev} {k : Int} {i : Nat} {s : Stay} (h : MapIs D out) (hs : out[i]? = some s) (ht : s.thread = e.thread) (hr : s.rest < 0)
    (hno : noteOk s e = false ∨ ¬ e.kind = 4) : tstep out k e = out.set i (noteS s k e) ∧ MapIs D (out.set i (noteS s k e)) := by
  obtain ⟨hm, hu, hD⟩ := h
  have hi : i < out.length := (List.getElem?_eq_some_iff.1 hs).1
  have hsi : out[i] = s := (List.getElem?_eq_some_iff.1 hs).2
  have hget : ∀ (j : Nat) (a : Stay), (out.set i (noteS s k e))[j]? = some a → ∃ b, out[j]? = some b ∧ a.thread = b.thread ∧ a.rest = b.rest := by
    intro j a ha
    rw [List.getElem?_set] at ha
    split at ha
    · rename_i hij; subst hij
      injection ha with ha; subst ha
      exact ⟨s, hs, noteS_thread s k e, noteS_rest s k e hno⟩
    · exact ⟨a, ha, rfl, rfl⟩
  have hput : ∀ (j : Nat) (b : Stay), out[j]? = some b → ∃ a, (out.set i (noteS s k e))[j]? = some a ∧ a.thread = b.thread ∧ a.rest = b.rest := by
    intro j b hb
    rw [List.getElem?_set]
    by_cases hij : i = j
    · subst hij
      rw [hs] at hb; injection hb with hb; subst hb
      exact ⟨noteS s k e, by simp [hi], noteS_thread s k e, noteS_rest s k e hno⟩
    · exact ⟨b, by rw [if_neg hij]; exact hb, rfl, rfl⟩
  refine ⟨?_, hm, ?_, fun t => ⟨fun hh => ?_, fun hh j a ha hat => ?_⟩⟩
  · unfold tstep
    rw [openOf_some hu hs ht hr]
    simp only [hs]
  · intro p q a b ha hb hab hra hrb
    obtain ⟨a', ha', e1, e2⟩ := hget p a ha
    obtain ⟨b', hb', e3, e4⟩ := hget q b hb
    exact hu p q a' b' ha' hb' (by rw [← e1, ← e3, hab]) (by omega) (by omega)
  · obtain ⟨j, b, hb, h1, h2, h3⟩ := (hD t).1 hh
    obtain ⟨a, ha, e1, e2⟩ := hput j b hb
    exact ⟨j, a, ha, by rw [e1, h1], by omega, h3⟩
  · obtain ⟨b, hb, e1, e2⟩ := hget j a ha
    have := (hD t).2 hh j b hb (by rw [← e1, hat])
    omega
theorem mapIs_rest {D : DataW Unit} {out : List Stay} {e : Ev} {k : Int} {i : Nat} {s : Stay} (h : MapIs D out) (hs : out[i]? = some s) (ht : s.thread = e.thread) (hr : s.rest < 0) (hk : 0 ≤ k)
    (hok : noteOk s e = true) (h4 : e.kind = 4) : tstep out k e = out.set i (noteS s k e) ∧ MapIs (D.del (keyI e.thread)) (out.set i (noteS s k e)) := by
  obtain ⟨hm, hu, hD⟩ := h
  have hi : i < out.length := (List.getElem?_eq_some_iff.1 hs).1
  have hget : ∀ (j : Nat) (a : Stay), (out.set i (noteS s k e))[j]? = some a → (j = i ∧ a.thread = e.thread ∧ a.rest = k) ∨ (j ≠ i ∧ out[j]? = some a) := by
    intro j a ha
    rw [List.getElem?_set] at ha
    split at ha
    · rename_i hij; subst hij
      injection ha with ha; subst ha
      rw [noteS_done s k e hok h4]
      exact .inl ⟨rfl, ht, rfl⟩
    · rename_i hij
      exact .inr ⟨fun e => hij e.symm, ha⟩
  refine ⟨?_, hm.del _, ?_, fun t => ?_⟩
  · unfold tstep
    rw [openOf_some hu hs ht hr]
    simp only [hs]
  · intro p q a b ha hb hab hra hrb
    rcases hget p a ha with ⟨_, _, h1⟩ | ⟨_, ha'⟩
    · omega
    · rcases hget q b hb with ⟨_, _, h1⟩ | ⟨_, hb'⟩
      · omega
      · exact hu p q a b ha' hb' hab hra hrb
  · by_cases hte : t = e.thread
    · subst hte
      refine ⟨fun hh => ?_, fun _ j a ha hat hra => ?_⟩
      · rw [has_del_same] at hh; cases hh
      · rcases hget j a ha with ⟨_, _, h1⟩ | ⟨hne, ha'⟩
        · omega
        · exact hne (hu j i a s ha' hs (by rw [hat, ht]) hra hr)
    · rw [has_del_other (keyI_ne hte), atKey_del_other (keyI_ne hte)]
      refine ⟨fun hh => ?_, fun hh j a ha hat => ?_⟩
      · obtain ⟨j, b, hb, h1, h2, h3⟩ := (hD t).1 hh
        refine ⟨j, b, ?_, h1, h2, h3⟩
        rw [List.getElem?_set, if_neg]
        · exact hb
        · rintro rfl
          rw [hs] at hb; injection hb with hb; subst hb
          exact hte (by rw [← h1, ht])
      · rcases hget j a ha with ⟨_, h1, _⟩ | ⟨_, ha'⟩
        · exact absurd (by rw [← hat, h1]) hte
        · exact (hD t).2 hh j a ha' hat
end Go.Proofs.YtndipiockdmaoaaGreat
end
section
set_option linter.unusedVariables false
set_option linter.unusedSimpArgs false
/- Opening arguments: a slice of numbers, a slice of events, an array of three numbers, as my walks want them. No program in sight. -/
namespace Go.Proofs.YtndipiockdmaoaaGreat
open Go.RowKit Go.ChangeShapes Go.WideShapes Go.Deep

theorem list_of_each {α : Type} (Q : Nat → α → Prop) : ∀ n : Nat, (∀ i, i < n → ∃ x, Q i x) → ∃ l : List α, l.length = n ∧ ∀ i x, l[i]? = some x → Q i x
  | 0, _ => ⟨[], rfl, by intro i x h; simp at h⟩
  | n + 1, h => by
    obtain ⟨l, hl, hq⟩ := list_of_each Q n (fun i hi => h i (by omega))
    obtain ⟨y, hy⟩ := h n (by omega)
    refine ⟨l ++ [y], by simp [hl], fun i x hx => ?_⟩
    rw [getElem?_snoc] at hx
    split at hx
    · exact hq i x hx
    · split at hx
      · rename_i _ he
        injection hx with hx
        subst hx; rw [he, hl]; exact hy
      · cases hx

section
variable {H : Type} {enc : TypeId × Value → H} {P : Program} {w : World} {base : Nat} {spare : Nat → Bool} {held : Bool}

theorem addr_add_none {b off : Nat} (j : Nat) : (⟨b, off, none⟩ : Addr).add j = ⟨b, off + j, none⟩ := by
  unfold Addr.add; split <;> simp_all

/-- a slice of numbers that came in -/
theorem open_RdI {t e : TypeId} {fuel : Nat} {v : Value} {x : DataW H × List MemPlace} (ht : P.underlying t = some (.slice e)) (he : P.underlying e = some (.int .i64)) (hc : P.cellsOf e = 1)
    (h : DataW.trod enc P w base spare held fuel t [v] = some x) :
    ∃ A cap zs, v = .slice A zs.length cap ∧ zs.length ≤ maxLen ∧ (zs.length ≤ 140737488355328 → RdL w v 1 encI zs) ∧ ∀ z ∈ zs, (Lit.int .i64 z).wf = true := by
  rcases open_ints ht he hc h with ⟨hcs, _⟩ | ⟨a, len, cap, zs, hcs, _, hl, hm, hz, _, hcell, hwf⟩
  · simp at hcs; subst hcs
    exact ⟨none, 0, [], rfl, by simp, fun _ => RdL.nil, by simp⟩
  · simp at hcs; subst hcs
    have hzl : len ≤ zs.length := by rw [hz]; split <;> omega
    refine ⟨some a, cap, zs.take len, by simp [hzl], by simp; omega, fun hb => ?_, fun z hzm => hwf z (List.mem_of_mem_take hzm)⟩
    have hlen : (zs.take len).length = len := by simp [hzl]
    refine ⟨some a, cap, by rw [hlen], by omega, hb, fun hn => ?_⟩
    rw [hlen] at hn
    have h0 := hcell 0 (by omega)
    obtain ⟨b, off, spot⟩ := a
    have hs : spot = none := by simpa [Addr.add] using World.cell?_spot h0
    subst hs
    refine ⟨b, off, rfl, World.block_lt_of_cell? w _ (by rw [addr_add_none] at h0; exact h0), fun i y hy j u hu => ?_⟩
    have hi : i < len := by have := (List.getElem?_eq_some_iff.1 hy).1; rw [hlen] at this; exact this
    have hc' := hcell i (by omega)
    rw [addr_add_none] at hc'
    have hj : j = 0 := by
      have := (List.getElem?_eq_some_iff.1 hu).1; simp [encI] at this; exact this
    subst hj
    have hy2 : zs.getD i 0 = y := by
      rw [List.getElem?_take, if_pos hi] at hy
      rw [List.getD_eq_getElem?_getD, hy]; rfl
    have hu2 : u = .int .i64 y := by simpa [encI] using hu.symm
    rw [Nat.mul_one, Nat.add_zero, hc', hu2, hy2]

theorem open_slice_fields {t e : TypeId} {fs : Array Field} {fuel : Nat} {cs : List Value} {x : DataW H × List MemPlace} (ht : P.underlying t = some (.slice e)) (he : P.underlying e = some (.struct fs))
    (hone : oneCellFields P fs = true) (hC : P.cellsOf e = fs.size) (h : DataW.trod enc P w base spare held fuel t cs = some x) :
    cs = [.slice none 0 0] ∨
    ∃ (a : Addr) (len cap : Nat), cs = [.slice (some a) len cap] ∧ len ≤ cap ∧ cap ≤ maxLen ∧
      ∀ i, i < len → ∀ (j : Nat) (f : Field), fs[j]? = some f → ∃ (v : Value) (n : Nat) (y : DataW H × List MemPlace), w.cell? (a.add (i * fs.size + j)) = some v ∧ DataW.trod enc P w base spare held n f.type [v] = some y := by
  rcases open_slice ht h with h0 | ⟨a, len, cap, m, n, D, Pl, hcs, hb, hl, hm, hmm, hx, hi⟩
  · exact .inl h0.1
  · refine .inr ⟨a, len, cap, hcs, hl, hm, fun i hin j f hj => ?_⟩
    have him : i < m := by rw [hmm]; split <;> omega
    obtain ⟨cs', hc, ht'⟩ := hi i him
    rw [hC] at hc
    obtain ⟨ys, n', hn', hy, hlen, hyl, hf⟩ := DataW.trod_struct he ht'
    obtain ⟨_, hcl, hat⟩ := World.cells?_some hc
    obtain ⟨ho, hk⟩ := hone_of hone j f hj
    have hjl : j < fs.size := (Array.getElem?_eq_some_iff.1 hj).1
    have hcell := hat j hjl
    have h1 := hf j f hj
    rw [ho, hk] at h1
    have hone' : (cs'.drop j).take 1 = [cs'[j]'(by omega)] := by
      rw [List.drop_eq_getElem_cons (by omega)]
      rfl
    rw [hone'] at h1
    have hys : ys[j]? = some (ys[j]'(by omega)) := List.getElem?_eq_getElem (by omega)
    refine ⟨cs'[j]'(by omega), n', ys[j]'(by omega), ?_, h1.trans hys⟩
    rw [← Go.Deep.add_add, hcell]
    exact List.getElem?_eq_getElem (by omega)

/-- a slice of events that came in -/
theorem open_RdE {t e ti tb : TypeId} {f0 f1 f2 f3 : Field} {fuel : Nat} {v : Value} {x : DataW H × List MemPlace} (ht : P.underlying t = some (.slice e)) (he : P.underlying e = some (.struct #[f0, f1, f2, f3]))
    (hone : oneCellFields P #[f0, f1, f2, f3] = true) (hC : P.cellsOf e = 4) (h0 : f0.type = ti) (h1 : f1.type = ti) (h2 : f2.type = tb) (h3 : f3.type = ti) (hti : P.underlying ti = some (.int .i64)) (htb : P.underlying tb = some .bool)
    (h : DataW.trod enc P w base spare held fuel t [v] = some x) :
    ∃ A cap l, v = .slice A l.length cap ∧ l.length ≤ maxLen ∧ (l.length ≤ 140737488355328 → RdL w v 4 encE l) ∧ ∀ z ∈ l, (Lit.int .i64 z.thread).wf = true ∧ (Lit.int .i64 z.kind).wf = true ∧ (Lit.int .i64 z.count).wf = true := by
  rcases open_slice_fields ht he hone (by rw [hC]; rfl) h with hcs | ⟨a, len, cap, hcs, hl, hm, hf⟩
  · simp at hcs; subst hcs
    exact ⟨none, 0, [], rfl, by simp, fun _ => RdL.nil, by simp⟩
  · simp at hcs; subst hcs
    have each : ∀ i, i < len → ∃ z : Ev, (w.cell? (a.add (i * 4 + 0)) = some (.int .i64 z.kind) ∧ w.cell? (a.add (i * 4 + 1)) = some (.int .i64 z.thread) ∧ w.cell? (a.add (i * 4 + 2)) = some (.bool z.read) ∧ w.cell? (a.add (i * 4 + 3)) = some (.int .i64 z.count)) ∧
        (Lit.int .i64 z.thread).wf = true ∧ (Lit.int .i64 z.kind).wf = true ∧ (Lit.int .i64 z.count).wf = true := by
      intro i hi
      obtain ⟨v0, n0, y0, c0, r0⟩ := hf i hi 0 f0 rfl
      obtain ⟨v1, n1, y1, c1, r1⟩ := hf i hi 1 f1 rfl
      obtain ⟨v2, n2, y2, c2, r2⟩ := hf i hi 2 f2 rfl
      obtain ⟨v3, n3, y3, c3, r3⟩ := hf i hi 3 f3 rfl
      rw [h0] at r0
      rw [h1] at r1
      rw [h2] at r2
      rw [h3] at r3
      obtain ⟨a0, e0, _, w0⟩ := DataW.trod_int hti r0
      obtain ⟨a1, e1, _, w1⟩ := DataW.trod_int hti r1
      obtain ⟨a2, e2, _⟩ := DataW.trod_bool htb r2
      obtain ⟨a3, e3, _, w3⟩ := DataW.trod_int hti r3
      simp at e0 e1 e2 e3
      subst e0 e1 e2 e3
      exact ⟨⟨a0, a1, a2, a3⟩, ⟨c0, c1, c2, c3⟩, w1, w0, w3⟩
    obtain ⟨l, hll, hq⟩ := list_of_each _ len each
    refine ⟨some a, cap, l, by rw [hll], by omega, fun hb => ?_, fun z hz => ?_⟩
    · refine ⟨some a, cap, by rw [hll], by omega, hb, fun hn => ?_⟩
      obtain ⟨z0, hz0⟩ := getElem?_lt (show 0 < l.length from hn)
      have hc0 := (hq 0 z0 hz0).1.1
      obtain ⟨b, off, spot⟩ := a
      have hs : spot = none := by simpa [Addr.add] using World.cell?_spot hc0
      subst hs
      refine ⟨b, off, rfl, World.block_lt_of_cell? w _ (by rw [addr_add_none] at hc0; exact hc0), fun i y hy j u hu => ?_⟩
      have hc := (hq i y hy).1
      simp only [addr_add_none, ← Nat.add_assoc] at hc
      have hj : j < 4 := by have := (List.getElem?_eq_some_iff.1 hu).1; simpa [encE] using this
      obtain rfl | rfl | rfl | rfl : j = 0 ∨ j = 1 ∨ j = 2 ∨ j = 3 := by omega
      · rw [hc.1]; simpa [encE] using hu
      · rw [hc.2.1]; simpa [encE] using hu
      · rw [hc.2.2.1]; simpa [encE] using hu
      · rw [hc.2.2.2]; simpa [encE] using hu
    · obtain ⟨i, hi⟩ := List.getElem?_of_mem hz
      exact (hq i z hi).2

/-- an array of numbers that came in -/
theorem open_arr3 {r : Reach} {b0 : Nat} {t e : TypeId} {k : IntKind} {fuel : Nat} {v : Value} {x : DataW H × List MemPlace} (ht : P.underlying t = some (.array 3 e)) (he : P.underlying e = some (.int k)) (hc : P.cellsOf e = 1) (hC : P.cellsOf t = 3)
    (hv : Value.okWide P w r b0 t v) (h : DataW.trod enc P w base spare held fuel t v.cells.toList = some x) : ∃ n0 n1 n2 : Int, v = .agg #[.int k n0, .int k n1, .int k n2] ∧ (Lit.int k n0).wf = true ∧ (Lit.int k n1).wf = true ∧ (Lit.int k n2).wf = true := by
  unfold Value.okWide at hv
  rw [ht] at hv
  obtain ⟨cs, rfl, hsz, _⟩ := hv
  rw [hC] at hsz
  obtain ⟨xs, m, _, _, _, hxl, hg⟩ := DataW.trod_array ht h
  obtain ⟨l⟩ := cs
  match l, hsz with
  | [c0, c1, c2], _ =>
    match xs, hxl with
    | [y0, y1, y2], _ =>
      have g0 := hg 0 (by omega)
      have g1 := hg 1 (by omega)
      have g2 := hg 2 (by omega)
      rw [hc] at g0 g1 g2
      simp [Value.cells] at g0 g1 g2
      obtain ⟨a0, e0, _, w0⟩ := DataW.trod_int he g0
      obtain ⟨a1, e1, _, w1⟩ := DataW.trod_int he g1
      obtain ⟨a2, e2, _, w2⟩ := DataW.trod_int he g2
      simp at e0 e1 e2
      subst e0 e1 e2
      exact ⟨a0, a1, a2, rfl, w0, w1, w2⟩
theorem open_arr4 {r : Reach} {b0 : Nat} {t e : TypeId} {k : IntKind} {fuel : Nat} {v : Value} {x : DataW H × List MemPlace} (ht : P.underlying t = some (.array 4 e)) (he : P.underlying e = some (.int k)) (hc : P.cellsOf e = 1) (hC : P.cellsOf t = 4)
    (hv : Value.okWide P w r b0 t v) (h : DataW.trod enc P w base spare held fuel t v.cells.toList = some x) : ∃ n0 n1 n2 n3 : Int, v = .agg #[.int k n0, .int k n1, .int k n2, .int k n3] ∧ (Lit.int k n0).wf = true ∧ (Lit.int k n1).wf = true ∧ (Lit.int k n2).wf = true ∧ (Lit.int k n3).wf = true := by
  unfold Value.okWide at hv
  rw [ht] at hv
  obtain ⟨cs, rfl, hsz, _⟩ := hv
  rw [hC] at hsz
  obtain ⟨xs, m, _, _, _, hxl, hg⟩ := DataW.trod_array ht h
  obtain ⟨l⟩ := cs
  match l, hsz with
  | [c0, c1, c2, c3], _ =>
    match xs, hxl with
    | [y0, y1, y2, y3], _ =>
      have g0 := hg 0 (by omega)
      have g1 := hg 1 (by omega)
      have g2 := hg 2 (by omega)
      have g3 := hg 3 (by omega)
      rw [hc] at g0 g1 g2 g3
      simp [Value.cells] at g0 g1 g2 g3
      obtain ⟨a0, e0, _, w0⟩ := DataW.trod_int he g0
      obtain ⟨a1, e1, _, w1⟩ := DataW.trod_int he g1
      obtain ⟨a2, e2, _, w2⟩ := DataW.trod_int he g2
      obtain ⟨a3, e3, _, w3⟩ := DataW.trod_int he g3
      simp at e0 e1 e2 e3
      subst e0 e1 e2 e3
      exact ⟨a0, a1, a2, a3, rfl, w0, w1, w2, w3⟩
end
end Go.Proofs.YtndipiockdmaoaaGreat
end
section
set_option linter.unusedVariables false
set_option linter.unusedSimpArgs false
/- Opening an argument that is a topology. -/
namespace Go.Proofs.YtndipiockdmaoaaGreat
open Go.RowKit Go.ChangeShapes Go.WideShapes Go.Deep

theorem Tryz.cellsTopo : Tryz.prog.cellsOf 29 = 2 := by kernel_rfl
theorem Tryz.cellsInts : Tryz.prog.cellsOf 27 = 1 := by kernel_rfl
theorem Tryz.cellsInt : Tryz.prog.cellsOf 3 = 1 := by kernel_rfl
theorem okWide_row {P : Program} {w : World} {r : Reach} {base : Nat} {t e : TypeId} {v : Value} {n : Nat} (ht : P.underlying t = some (.array n e)) (h : Value.okWide P w r base t v) : ∃ cs, v = .agg cs ∧ cs.size = P.cellsOf t := by
  unfold Value.okWide at h
  rw [ht] at h
  obtain ⟨cs, h1, h2, _⟩ := h
  exact ⟨cs, h1, h2⟩
section
variable {H : Type} {enc : TypeId × Value → H} {w : World} {base : Nat} {spare : Nat → Bool} {held : Bool}
set_option maxRecDepth 100000 in
theorem open_topo {r : Reach} {b0 fuel : Nat} {v : Value} {x : DataW H × List MemPlace} (hv : Value.okWide Tryz.prog w r b0 29 v) (h : DataW.trod enc Tryz.prog w base spare held fuel 29 v.cells.toList = some x) :
    ∃ AP cP P AT cT T, v = .agg #[.slice AP (List.length (α := Int) P) cP, .slice AT (List.length (α := Int) T) cT] ∧ P.length ≤ maxLen ∧ T.length ≤ maxLen ∧ (P.length ≤ 140737488355328 → RdL w (.slice AP P.length cP) 1 encI P) ∧ (T.length ≤ 140737488355328 → RdL w (.slice AT T.length cT) 1 encI T) := by
  obtain ⟨cs, rfl, hsz⟩ := okWide_struct Tryz.underlying29 hv
  rw [Tryz.cellsTopo] at hsz
  obtain ⟨xs, m, _, _, _, hxl, hf⟩ := DataW.trod_struct Tryz.underlying29 h
  obtain ⟨l⟩ := cs
  match l, hsz with
  | [c0, c1], _ =>
    match xs, hxl with
    | [y0, y1], _ =>
      have g0 := hf 0 _ rfl
      have g1 := hf 1 _ rfl
      simp [Value.cells, Tryz.cellsInts] at g0 g1
      obtain ⟨AP, cP, P, e0, m0, R0, _⟩ := open_RdI Tryz.underlying27 Tryz.underlying3 Tryz.cellsInt g0
      obtain ⟨AT, cT, T, e1, m1, R1, _⟩ := open_RdI Tryz.underlying27 Tryz.underlying3 Tryz.cellsInt g1
      subst e0 e1
      exact ⟨AP, cP, P, AT, cT, T, rfl, m0, m1, R0, R1⟩
end
end Go.Proofs.YtndipiockdmaoaaGreat
end
section
set_option linter.unusedVariables false
set_option linter.unusedSimpArgs false
/- Opening an argument that is a slice of structs of two numbers. -/
namespace Go.Proofs.YtndipiockdmaoaaGreat
open Go.RowKit Go.ChangeShapes Go.WideShapes Go.Deep
section
variable {H : Type} {enc : TypeId × Value → H} {P : Program} {w : World} {base : Nat} {spare : Nat → Bool} {held : Bool}
/-- a slice of structs of two numbers that came in -/
theorem open_RdP {t e ti : TypeId} {f0 f1 : Field} {fuel : Nat} {v : Value} {x : DataW H × List MemPlace} (ht : P.underlying t = some (.slice e)) (he : P.underlying e = some (.struct #[f0, f1]))
    (hone : oneCellFields P #[f0, f1] = true) (hC : P.cellsOf e = 2) (h0 : f0.type = ti) (h1 : f1.type = ti) (hti : P.underlying ti = some (.int .i64))
    (h : DataW.trod enc P w base spare held fuel t [v] = some x) :
    ∃ A cap l, v = .slice A l.length cap ∧ l.length ≤ maxLen ∧ (l.length ≤ 140737488355328 → RdL w v 2 encP l) := by
  rcases open_slice_fields ht he hone (by rw [hC]; rfl) h with hcs | ⟨a, len, cap, hcs, hl, hm, hf⟩
  · simp at hcs; subst hcs
    exact ⟨none, 0, [], rfl, by simp, fun _ => RdL.nil⟩
  · simp at hcs; subst hcs
    have each : ∀ i, i < len → ∃ z : Int × Int, w.cell? (a.add (i * 2 + 0)) = some (.int .i64 z.1) ∧ w.cell? (a.add (i * 2 + 1)) = some (.int .i64 z.2) := by
      intro i hi
      obtain ⟨v0, n0, y0, c0, r0⟩ := hf i hi 0 f0 rfl
      obtain ⟨v1, n1, y1, c1, r1⟩ := hf i hi 1 f1 rfl
      rw [h0] at r0
      rw [h1] at r1
      obtain ⟨a0, e0, _, w0⟩ := DataW.trod_int hti r0
      obtain ⟨a1, e1, _, w1⟩ := DataW.trod_int hti r1
      simp at e0 e1
      subst e0 e1
      exact ⟨(a0, a1), c0, c1⟩
    obtain ⟨l, hll, hq⟩ := list_of_each _ len each
    refine ⟨some a, cap, l, by rw [hll], by omega, fun hb => ?_⟩
    refine ⟨some a, cap, by rw [hll], by omega, hb, fun hn => ?_⟩
    obtain ⟨z0, hz0⟩ := getElem?_lt (show 0 < l.length from hn)
    have hc0 := (hq 0 z0 hz0).1
    obtain ⟨b, off, spot⟩ := a
    have hs : spot = none := by simpa [Addr.add] using World.cell?_spot hc0
    subst hs
    refine ⟨b, off, rfl, World.block_lt_of_cell? w _ (by rw [addr_add_none] at hc0; exact hc0), fun i y hy j u hu => ?_⟩
    have hc := hq i y hy
    simp only [addr_add_none, ← Nat.add_assoc] at hc
    have hj : j < 2 := by have := (List.getElem?_eq_some_iff.1 hu).1; simpa [encP] using this
    obtain rfl | rfl : j = 0 ∨ j = 1 := by omega
    · rw [hc.1]; simpa [encP] using hu
    · rw [hc.2]; simpa [encP] using hu
end
end Go.Proofs.YtndipiockdmaoaaGreat
end
section
set_option linter.unusedVariables false
set_option linter.unusedSimpArgs false
/- The arena and spots as plain data. No program in sight. -/
namespace Go.Proofs.YtndipiockdmaoaaGreat
open Go

/-- an arena: the words that were taken, the room, how many ops, the last one -/
structure Ar where
  W : List Int
  room : Nat
  ops : Nat
  k : Int
  at_ : Int
  wr : Bool
def inR (W : List Int) (x : Int) : Bool := decide (1 ≤ x ∧ x ≤ W.length)
def ldW (W : List Int) (x : Int) : Int := if inR W x then W.getD (x.toNat - 1) 0 else 0
def stW (W : List Int) (x v : Int) : List Int := if inR W x then W.set (x.toNat - 1) v else W
def noteA (s : Ar) (k x : Int) (wr : Bool) : Ar := if inR s.W x then { s with ops := s.ops + 1, k := k, at_ := x, wr := wr } else s
def wrA (s : Ar) (x v : Int) : Ar := { s with W := stW s.W x v }
def loadA (s : Ar) (x : Int) : Ar := noteA s 1 x false
def storeA (s : Ar) (x v : Int) : Ar := wrA (noteA s 2 x true) x v
def swapA (s : Ar) (x v : Int) : Ar := wrA (noteA s 3 x true) x v
def casB (s : Ar) (x old : Int) : Bool := inR s.W x && decide (ldW s.W x = old)
def casA (s : Ar) (x old v : Int) : Ar := if casB s x old then wrA (noteA s 4 x true) x v else noteA s 4 x false
def addA (s : Ar) (x d : Int) : Ar := wrA (noteA s 5 x true) x (IntKind.i64.wrap (ldW s.W x + d))

theorem stW_len (W : List Int) (x v : Int) : (stW W x v).length = W.length := by unfold stW; split <;> simp
theorem inR_true {W : List Int} {x : Int} : inR W x = true ↔ 1 ≤ x ∧ x ≤ W.length := by unfold inR; exact decide_eq_true_iff
theorem inR_false {W : List Int} {x : Int} : inR W x = false ↔ ¬ (1 ≤ x ∧ x ≤ W.length) := by unfold inR; exact decide_eq_false_iff_not

structure Sp where
  pc : Int
  a : Int
  b : Int
  c : Int
def Sp.zero : Sp := ⟨0, 0, 0, 0⟩
theorem sp_ext {p q : Sp} (h1 : p.pc = q.pc) (h2 : p.a = q.a) (h3 : p.b = q.b) (h4 : p.c = q.c) : p = q := by cases p; cases q; simp at *; exact ⟨h1, h2, h3, h4⟩

def okI (S : List Sp) (i : Int) : Prop := 0 ≤ i ∧ i < S.length
instance (S : List Sp) (i : Int) : Decidable (okI S i) := by unfold okI; infer_instance
def getS (S : List Sp) (i : Int) : Sp := if 0 ≤ i ∧ i < S.length then S.getD i.toNat Sp.zero else Sp.zero

theorem getS_in {S : List Sp} {i : Int} (h : okI S i) : S[i.toNat]? = some (getS S i) := by
  unfold getS
  rw [if_pos (show 0 ≤ i ∧ i < S.length from h), List.getD_eq_getElem?_getD]
  have : i.toNat < S.length := by have := h.1; have := h.2; omega
  rw [List.getElem?_eq_getElem this]; rfl
theorem getS_out {S : List Sp} {i : Int} (h : ¬ okI S i) : getS S i = Sp.zero := by unfold getS; rw [if_neg (show ¬ (0 ≤ i ∧ i < S.length) from h)]

def sv (S : List Sp) (j : Nat) : Sp := S.getD j Sp.zero
theorem getD_set {α : Type} (l : List α) (i j : Nat) (a d : α) : (l.set i a).getD j d = if i = j ∧ i < l.length then a else l.getD j d := by
  rw [List.getD_eq_getElem?_getD, List.getD_eq_getElem?_getD, List.getElem?_set]
  by_cases h : i = j
  · subst h
    by_cases h2 : i < l.length
    · simp [h2]
    · simp [h2]
  · simp [h]
theorem sv_set (S : List Sp) (i j : Nat) (p : Sp) : sv (S.set i p) j = if i = j ∧ i < S.length then p else sv S j := getD_set _ _ _ _ _
theorem noteA_W (s : Ar) (k x : Int) (wr : Bool) : (noteA s k x wr).W = s.W := by unfold noteA; split <;> rfl
theorem noteA_out (s : Ar) (k x : Int) (wr : Bool) (h : inR s.W x = false) : noteA s k x wr = s := by unfold noteA; rw [h]; rfl
theorem wrA_out (s : Ar) (x v : Int) (h : inR s.W x = false) : wrA s x v = s := by unfold wrA stW; rw [h]; rfl
theorem ldW_in {W : List Int} {x : Int} (h : inR W x = true) : ldW W x = W.getD (x.toNat - 1) 0 := by unfold ldW; rw [if_pos h]
theorem ldW_out {W : List Int} {x : Int} (h : inR W x = false) : ldW W x = 0 := by unfold ldW; rw [h]; rfl
theorem wrA_W (s : Ar) (x v : Int) : (wrA s x v).W = stW s.W x v := rfl
theorem loadA_W (s : Ar) (x : Int) : (loadA s x).W = s.W := noteA_W _ _ _ _
theorem storeA_W (s : Ar) (x v : Int) : (storeA s x v).W = stW s.W x v := by unfold storeA; rw [wrA_W, noteA_W]
theorem swapA_W (s : Ar) (x v : Int) : (swapA s x v).W = stW s.W x v := by unfold swapA; rw [wrA_W, noteA_W]
theorem casA_W (s : Ar) (x o v : Int) : (casA s x o v).W = if casB s x o then stW s.W x v else s.W := by unfold casA; split <;> rename_i h <;> simp only [wrA_W, noteA_W]
theorem addA_W (s : Ar) (x d : Int) : (addA s x d).W = stW s.W x (IntKind.i64.wrap (ldW s.W x + d)) := by unfold addA; rw [wrA_W, noteA_W]
theorem noteA_ops (s : Ar) (k x : Int) (wr : Bool) : (noteA s k x wr).ops ≤ s.ops + 1 := by unfold noteA; split <;> simp
theorem wrA_ops (s : Ar) (x v : Int) : (wrA s x v).ops = s.ops := rfl
theorem loadA_ops (s : Ar) (x : Int) : (loadA s x).ops ≤ s.ops + 1 := noteA_ops _ _ _ _
theorem storeA_ops (s : Ar) (x v : Int) : (storeA s x v).ops ≤ s.ops + 1 := noteA_ops _ _ _ _
theorem swapA_ops (s : Ar) (x v : Int) : (swapA s x v).ops ≤ s.ops + 1 := noteA_ops _ _ _ _
theorem addA_ops (s : Ar) (x d : Int) : (addA s x d).ops ≤ s.ops + 1 := noteA_ops _ _ _ _
theorem casA_ops (s : Ar) (x o v : Int) : (casA s x o v).ops ≤ s.ops + 1 := by unfold casA; split <;> exact noteA_ops _ _ _ _
end Go.Proofs.YtndipiockdmaoaaGreat
end
section
set_option linter.unusedVariables false
set_option linter.unusedSimpArgs false
/- Layers 15 to 20: the five flat locks as plain data: what a step of a slot does. No program in sight. -/
namespace Go.Proofs.YtndipiockdmaoaaGreat
open Go

/-- the number of who stands behind a slot's number, and of what it waits for -/
def mNx (t x : Int) : Int := t + 2 * x - 1
def mWt (t x : Int) : Int := t + 2 * x
def pPl (t m k : Int) : Int := t + 1 + k % m
def tasK (t m : Int) (s : Ar) (i : Int) (p : Sp) : Ar × Sp :=
  if p.pc = 1 then (casA s t 0 (i + 1), if casB s t 0 then { p with pc := 10 } else { p with pc := 2, b := p.a, a := min (2 * p.a) m })
  else if p.pc = 2 then (s, { p with b := p.b - 1, pc := if p.b - 1 = 0 then 1 else 2 })
  else if p.pc = 11 then (storeA s t 0, { p with pc := 0 })
  else (s, p)
def tickK (t : Int) (s : Ar) (p : Sp) : Ar × Sp :=
  if p.pc = 1 then (addA s t 1, { p with a := ldW s.W t, pc := 2 })
  else if p.pc = 2 then (loadA s (t + 1), { p with pc := if ldW s.W (t + 1) = p.a then 10 else 2 })
  else if p.pc = 11 then (storeA s (t + 1) (p.a + 1), { p with pc := 0 })
  else (s, p)
def partK (t m : Int) (s : Ar) (p : Sp) : Ar × Sp :=
  if p.pc = 1 then (addA s t 1, { p with a := ldW s.W t, pc := 2 })
  else if p.pc = 2 then (loadA s (pPl t m p.a), { p with pc := if ldW s.W (pPl t m p.a) = p.a + 1 then 10 else 2 })
  else if p.pc = 11 then (storeA s (pPl t m (p.a + 1)) (p.a + 2), { p with pc := 0 })
  else (s, p)
def mcsIn (t : Int) (s : Ar) (x : Int) (p : Sp) : Ar × Sp :=
  if p.pc = 1 then (storeA s (mNx t x) 0, { p with pc := 2 })
  else if p.pc = 2 then (storeA s (mWt t x) 1, { p with pc := 3 })
  else if p.pc = 3 then (swapA s t x, { p with a := ldW s.W t, pc := if ldW s.W t = 0 then 10 else 4 })
  else if p.pc = 4 then (storeA s (mNx t p.a) x, { p with pc := 5 })
  else (loadA s (mWt t x), { p with pc := if ldW s.W (mWt t x) = 0 then 10 else 5 })
def mcsOut (t : Int) (s : Ar) (x : Int) (p : Sp) : Ar × Sp :=
  if p.pc = 12 then (casA s t x 0, { p with pc := if casB s t x then 0 else 13 })
  else if p.pc = 14 then (storeA s (mWt t p.a) 0, { p with pc := 0 })
  else (loadA s (mNx t x), { p with a := ldW s.W (mNx t x), pc := if ldW s.W (mNx t x) ≠ 0 then 14 else if p.pc = 11 then 12 else 13 })
def mcsK (t : Int) (s : Ar) (i : Int) (p : Sp) : Ar × Sp :=
  if 0 < p.pc ∧ p.pc < 10 then mcsIn t s (i + 1) p else if 10 < p.pc then mcsOut t s (i + 1) p else (s, p)
def clhK (t : Int) (s : Ar) (p : Sp) : Ar × Sp :=
  if p.pc = 1 then (storeA s (t + p.a) 1, { p with pc := 2 })
  else if p.pc = 2 then (swapA s t p.a, { p with b := ldW s.W t, pc := 3 })
  else if p.pc = 3 then (loadA s (t + p.b), { p with pc := if ldW s.W (t + p.b) = 0 then 10 else 3 })
  else if p.pc = 11 then (storeA s (t + p.a) 0, { p with a := p.b, pc := 0 })
  else (s, p)
/-- a step of a slot of a lock of kind k -/
def stepK (k : Nat) (t m : Int) (s : Ar) (i : Int) (p : Sp) : Ar × Sp :=
  if k = 1 then tasK t m s i p else if k = 2 then tickK t s p else if k = 3 then partK t m s p else if k = 4 then mcsK t s i p else clhK t s p
/-- whether a step is told to have come somewhere -/
def cameK (p p' : Sp) : Bool := decide ((p'.pc = 10 ∨ p'.pc = 0) ∧ p.pc ≠ 0 ∧ p.pc ≠ 10)
def askK (k : Nat) (p : Sp) : Sp := if p.pc = 0 then (if k = 1 then { p with pc := 1, a := 1 } else { p with pc := 1 }) else p
def leaveK (p : Sp) : Sp := if p.pc = 10 then { p with pc := 11 } else p
/-- what a look does whether nobody waits -/
def aloneK (k : Nat) (t : Int) (s : Ar) (i : Int) (p : Sp) : Ar × Bool :=
  if p.pc = 10 then
    if k = 1 then (s, true) else if k = 2 ∨ k = 3 then (loadA s t, decide (ldW s.W t = p.a + 1))
    else if k = 4 then (loadA s (mNx t (i + 1)), decide (ldW s.W (mNx t (i + 1)) = 0)) else (loadA s t, decide (ldW s.W t = p.a))
  else (s, false)
end Go.Proofs.YtndipiockdmaoaaGreat
end
section
set_option linter.unusedVariables false
set_option linter.unusedSimpArgs false
/- Layers 15 to 20: how large words and spots of a flat lock become: 2 more a step. No program in sight. -/
namespace Go.Proofs.YtndipiockdmaoaaGreat
open Go

def WdB (B : Int) (s : Ar) : Prop := ∀ v ∈ s.W, 0 ≤ v ∧ v ≤ B
structure SpB (k : Nat) (B : Int) (p : Sp) : Prop where
  a0 : 0 ≤ p.a
  a1 : p.a ≤ B
  b0 : -B ≤ p.b
  b1 : p.b ≤ B
  b2 : k ≠ 1 → 0 ≤ p.b
theorem WdB.mono {B C : Int} {s : Ar} (h : WdB B s) (hBC : B ≤ C) : WdB C s := fun v hv => ⟨(h v hv).1, by have := (h v hv).2; omega⟩
theorem SpB.mono {k : Nat} {B C : Int} {p : Sp} (h : SpB k B p) (hBC : B ≤ C) : SpB k C p := ⟨h.a0, by have := h.a1; omega, by have := h.b0; omega, by have := h.b1; omega, h.b2⟩
theorem WdB.ld {B : Int} {s : Ar} (h : WdB B s) (hB : 0 ≤ B) (x : Int) : 0 ≤ ldW s.W x ∧ ldW s.W x ≤ B := by
  by_cases hx : inR s.W x = true
  · rw [ldW_in hx]
    obtain ⟨h1, h2⟩ := inR_true.1 hx
    have hl : x.toNat - 1 < s.W.length := by omega
    rw [List.getD_eq_getElem?_getD, List.getElem?_eq_getElem hl]
    exact h _ (List.getElem_mem hl)
  · rw [ldW_out (by simpa using hx)]; exact ⟨Int.le_refl _, hB⟩
theorem WdB.st {B : Int} {s s' : Ar} (h : WdB B s) (x v : Int) (hv : 0 ≤ v ∧ v ≤ B) (e : s'.W = stW s.W x v) : WdB B s' := by
  intro u hu
  rw [e] at hu
  unfold stW at hu
  split at hu
  · rcases List.mem_or_eq_of_mem_set hu with h1 | h1
    · exact h u h1
    · rw [h1]; exact hv
  · exact h u hu
theorem WdB.same {B : Int} {s s' : Ar} (h : WdB B s) (e : s'.W = s.W) : WdB B s' := by intro u hu; rw [e] at hu; exact h u hu
theorem WdB.load {B : Int} {s : Ar} (h : WdB B s) (x : Int) : WdB B (loadA s x) := h.same (loadA_W _ _)
theorem WdB.store {B : Int} {s : Ar} (h : WdB B s) (x v : Int) (hv : 0 ≤ v ∧ v ≤ B) : WdB B (storeA s x v) := h.st x v hv (storeA_W _ _ _)
theorem WdB.swap {B : Int} {s : Ar} (h : WdB B s) (x v : Int) (hv : 0 ≤ v ∧ v ≤ B) : WdB B (swapA s x v) := h.st x v hv (swapA_W _ _ _)
theorem WdB.cas {B : Int} {s : Ar} (h : WdB B s) (x o v : Int) (hv : 0 ≤ v ∧ v ≤ B) : WdB B (casA s x o v) := by
  have e := casA_W s x o v
  split at e
  · exact h.st x v hv e
  · exact h.same e
theorem WdB.add1 {B : Int} {s : Ar} (h : WdB B s) (hB : 0 ≤ B) (hB2 : B ≤ 10000000000000) (x : Int) : WdB (B + 2) (addA s x 1) := by
  have hl := h.ld hB x
  refine (h.mono (by omega)).st x _ ?_ (addA_W _ _ _)
  rw [IntWalk.i64_in _ (by omega)]
  omega
theorem bd_step {k : Nat} {B : Int} {t m : Int} {s : Ar} {i : Int} {p : Sp} (hW : WdB B s) (hp : SpB k B p) (hB : 0 ≤ B) (hB2 : B ≤ 10000000000000) (hi : 0 ≤ i ∧ i + 1 ≤ B) (hm : 1 ≤ m ∧ m ≤ B) :
    WdB (B + 2) (stepK k t m s i p).1 ∧ SpB k (B + 2) (stepK k t m s i p).2 := by
  have hW2 : WdB (B + 2) s := hW.mono (by omega)
  have hl := fun x => hW.ld hB x
  have hp2 : SpB k (B + 2) p := hp.mono (by omega)
  have ha0 := hp.a0
  have ha1 := hp.a1
  have hb0 := hp.b0
  have hb1 := hp.b1
  have hb2 := hp.b2
  unfold stepK
  split
  · rename_i hk
    unfold tasK
    split
    · refine ⟨hW2.cas _ _ _ (by omega), ?_⟩
      split
      · exact ⟨by simpa using ha0, by show p.a ≤ _; omega, by show _ ≤ p.b; omega, by show p.b ≤ _; omega, fun h => absurd hk h⟩
      · refine ⟨?_, ?_, ?_, ?_, fun h => absurd hk h⟩
        · show 0 ≤ min (2 * p.a) m; omega
        · show min (2 * p.a) m ≤ _; omega
        · show _ ≤ p.a; omega
        · show p.a ≤ _; omega
    split
    · refine ⟨hW2, ?_, ?_, ?_, ?_, fun h => absurd hk h⟩
      · exact ha0
      · show p.a ≤ _; omega
      · show _ ≤ p.b - 1; omega
      · show p.b - 1 ≤ _; omega
    split
    · exact ⟨hW2.store _ _ (by omega), hp2.a0, hp2.a1, hp2.b0, hp2.b1, hp2.b2⟩
    · exact ⟨hW2, hp2⟩
  split
  · unfold tickK
    split
    · exact ⟨hW.add1 hB hB2 _, (hl _).1, by have := (hl t).2; show ldW s.W t ≤ _; omega, hp2.b0, hp2.b1, hp2.b2⟩
    split
    · exact ⟨hW2.load _, hp2.a0, hp2.a1, hp2.b0, hp2.b1, hp2.b2⟩
    split
    · exact ⟨hW2.store _ _ (by omega), hp2.a0, hp2.a1, hp2.b0, hp2.b1, hp2.b2⟩
    · exact ⟨hW2, hp2⟩
  split
  · unfold partK
    split
    · exact ⟨hW.add1 hB hB2 _, (hl _).1, by have := (hl t).2; show ldW s.W t ≤ _; omega, hp2.b0, hp2.b1, hp2.b2⟩
    split
    · exact ⟨hW2.load _, hp2.a0, hp2.a1, hp2.b0, hp2.b1, hp2.b2⟩
    split
    · exact ⟨hW2.store _ _ (by omega), hp2.a0, hp2.a1, hp2.b0, hp2.b1, hp2.b2⟩
    · exact ⟨hW2, hp2⟩
  have hv : ∀ x : Int, ldW s.W x ≤ B + 2 := fun x => by have := (hl x).2; omega
  split
  · unfold mcsK
    split
    · unfold mcsIn
      split
      · exact ⟨hW2.store _ _ (by omega), hp2.a0, hp2.a1, hp2.b0, hp2.b1, hp2.b2⟩
      split
      · exact ⟨hW2.store _ _ (by omega), hp2.a0, hp2.a1, hp2.b0, hp2.b1, hp2.b2⟩
      split
      · exact ⟨hW2.swap _ _ (by omega), (hl _).1, hv _, hp2.b0, hp2.b1, hp2.b2⟩
      split
      · exact ⟨hW2.store _ _ (by omega), hp2.a0, hp2.a1, hp2.b0, hp2.b1, hp2.b2⟩
      · exact ⟨hW2.load _, hp2.a0, hp2.a1, hp2.b0, hp2.b1, hp2.b2⟩
    split
    · unfold mcsOut
      split
      · exact ⟨hW2.cas _ _ _ (by omega), hp2.a0, hp2.a1, hp2.b0, hp2.b1, hp2.b2⟩
      split
      · exact ⟨hW2.store _ _ (by omega), hp2.a0, hp2.a1, hp2.b0, hp2.b1, hp2.b2⟩
      · exact ⟨hW2.load _, (hl _).1, hv _, hp2.b0, hp2.b1, hp2.b2⟩
    · exact ⟨hW2, hp2⟩
  · rename_i hk _ _ _
    unfold clhK
    split
    · exact ⟨hW2.store _ _ (by omega), hp2.a0, hp2.a1, hp2.b0, hp2.b1, hp2.b2⟩
    split
    · exact ⟨hW2.swap _ _ (by omega), hp2.a0, hp2.a1, by show _ ≤ ldW s.W t; have := (hl t).1; omega, hv _, fun _ => (hl _).1⟩
    split
    · exact ⟨hW2.load _, hp2.a0, hp2.a1, hp2.b0, hp2.b1, hp2.b2⟩
    split
    · exact ⟨hW2.store _ _ (by omega), hb2 hk, hp2.b1, hp2.b0, hp2.b1, hp2.b2⟩
    · exact ⟨hW2, hp2⟩
theorem bd_ask {k : Nat} {B : Int} {p : Sp} (hp : SpB k B p) (hB : 1 ≤ B) : SpB k B (askK k p) := by
  unfold askK
  split
  · split
    · exact ⟨by show (0 : Int) ≤ 1; omega, hB, hp.b0, hp.b1, hp.b2⟩
    · exact ⟨hp.a0, hp.a1, hp.b0, hp.b1, hp.b2⟩
  · exact hp
theorem bd_leave {k : Nat} {B : Int} {p : Sp} (hp : SpB k B p) : SpB k B (leaveK p) := by
  unfold leaveK
  split
  · exact ⟨hp.a0, hp.a1, hp.b0, hp.b1, hp.b2⟩
  · exact hp
end Go.Proofs.YtndipiockdmaoaaGreat
end
