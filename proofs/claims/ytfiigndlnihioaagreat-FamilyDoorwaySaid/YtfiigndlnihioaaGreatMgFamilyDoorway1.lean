/- Joined: JfP, Base, Fam1, Fam2, Fam3, Pl, FlP, FlN, Co1. -/
import Derived.Test.YtfiigndlnihioaaGreatRows
import Derived.WalkKit
import Derived.ProofKit
import Derived.ChangeOld
import Derived.WalkSpells
import Derived.WalkLawsBesides
import Derived.Below
import Derived.Outline
import Derived.Lib.Hide
import Derived.Deep.QuietTactic
import Derived.BigQuiet
import Derived.Deep.Draws
import GoSem.Core.View
import Derived.IntWalk
section
/- Closed facts of the whole cut, once for all laws of a great seat. -/
namespace Go.Proofs.YtfiigndlnihioaaGreat
open Go.ChangeShapes Go.WideShapes Go.ChangeAt Go.RowKit
theorem laidOutP : laidOutB Tryz.pinned.checked.prog = true := by kernel_rfl
theorem mapsRowedP : mapsRowed Tryz.pinned.checked.prog = true := by kernel_rfl
theorem stopsHeardP : (Tryz.pinned.checked.prog).stopsHeard = true := by kernel_rfl
theorem mayEnterP : (Tryz.pinned.checked.prog).mayEnter = true := by kernel_rfl
end Go.Proofs.YtfiigndlnihioaaGreat
end
section
/-
  Words for memory that my walks share: a slice that reads as a list of elements (RdL), a call that only reads (Qt), small laws on the two. No program in sight.
-/
namespace Go.Proofs.YtfiigndlnihioaaGreat
open Go.RowKit

/-- The slice value v reads as the list l in w: sz cells an element, by enc. -/
def RdL {α : Type} (w : World) (v : Value) (sz : Nat) (enc : α → List Value) (l : List α) : Prop :=
  ∃ A cap, v = .slice A l.length cap ∧ l.length ≤ cap ∧ l.length ≤ 140737488355328 ∧
    (0 < l.length → ∃ b off, A = some ⟨b, off, none⟩ ∧ b < w.heap.size ∧ ∀ i x, l[i]? = some x → ∀ j u, (enc x)[j]? = some u → w.cell? ⟨b, off + i * sz + j, none⟩ = some u)

def Qt (w w' : World) : Prop := ∃ n, w' = w.drewN n

theorem Qt.refl (w : World) : Qt w w := ⟨0, rfl⟩
theorem Qt.trans {a b c : World} (h : Qt a b) (k : Qt b c) : Qt a c := by
  obtain ⟨n, rfl⟩ := h; obtain ⟨m, rfl⟩ := k
  exact ⟨n + m, by rw [World.drewN_drewN]⟩
theorem below_drewN {B : Nat} {a w : World} (h : Below B a w) (n : Nat) : Below B a (w.drewN n) := ⟨h.os, h.tape, h.output, h.size, h.block⟩
theorem Qt.below {w w' : World} (h : Qt w w') (B : Nat) : Below B w w' := by
  obtain ⟨n, rfl⟩ := h
  exact below_drewN (Below.refl _ _) n
theorem cell_drewN (w : World) (n : Nat) (a : Addr) : (w.drewN n).cell? a = w.cell? a := rfl

theorem block_lt_of_cell {w : World} {a : Addr} {v : Value} (h : w.cell? a = some v) : a.block < w.heap.size := World.block_lt_of_cell? w a h

section
variable {α : Type} {w w' : World} {v : Value} {sz : Nat} {enc : α → List Value} {l : List α}
theorem RdL.keep (h : RdL w v sz enc l) (hs : w.heap.size ≤ w'.heap.size) (hk : ∀ p : Addr, p.block < w.heap.size → w'.cell? p = w.cell? p) : RdL w' v sz enc l := by
  obtain ⟨A, cap, h1, h2, h3, h4⟩ := h
  refine ⟨A, cap, h1, h2, h3, fun hn => ?_⟩
  obtain ⟨b, off, e, hb, hc⟩ := h4 hn
  exact ⟨b, off, e, by omega, fun i x hx j u hu => (hk _ hb).trans (hc i x hx j u hu)⟩
theorem RdL.below (h : RdL w v sz enc l) {B : Nat} (hb : Below B w w') (hB : w.heap.size ≤ B) : RdL w' v sz enc l :=
  h.keep hb.size fun p hp => hb.cell (by omega)
theorem RdL.drewN (h : RdL w v sz enc l) (n : Nat) : RdL (w.drewN n) v sz enc l := h
theorem RdL.qt (h : RdL w v sz enc l) (q : Qt w w') : RdL w' v sz enc l := by
  obtain ⟨n, rfl⟩ := q; exact h
theorem RdL.alloc (h : RdL w v sz enc l) (o : Obj) : RdL (w.alloc o) v sz enc l := h.keep (by simp) fun p hp => World.cell?_alloc_lt w o p hp
theorem RdL.setCell (h : RdL w v sz enc l) {B : Nat} (hb : ∀ b off cap, v = .slice (some ⟨b, off, none⟩) l.length cap → b < B) {p : Addr} (hp : B ≤ p.block) (u : Value) : RdL (w.setCell p u) v sz enc l := by
  obtain ⟨A, cap, h1, h2, h3, h4⟩ := h
  refine ⟨A, cap, h1, h2, h3, fun hn => ?_⟩
  obtain ⟨b, off, e, hbb, hc⟩ := h4 hn
  have hlt : b < B := hb b off cap (by rw [h1, e])
  exact ⟨b, off, e, by simpa [World.setCell] using hbb, fun i x hx j u' hu => (World.cell?_setCell_other w p _ u (fun e => by subst e; simp at hp; omega)).trans (hc i x hx j u' hu)⟩
theorem RdL.nil : RdL w (.slice none 0 0) sz enc [] := ⟨none, 0, rfl, by simp, by simp, by simp⟩
end

/-- the cells of a list of elements, one behind the other -/
theorem getElem?_flatMap {α : Type} (enc : α → List Value) (sz : Nat) (hs : ∀ x, (enc x).length = sz) (l : List α) :
    ∀ i x j u, l[i]? = some x → (enc x)[j]? = some u → (l.flatMap enc)[i * sz + j]? = some u := by
  induction l with
  | nil => intro i x j u h; simp at h
  | cons a l ih =>
    intro i x j u h hu
    have hj : j < sz := by have := (List.getElem?_eq_some_iff.1 hu).1; rw [hs] at this; exact this
    cases i with
    | zero =>
      simp at h; subst h
      rw [List.flatMap_cons, List.getElem?_append_left (by rw [hs]; omega)]
      simpa using hu
    | succ i =>
      rw [List.flatMap_cons, List.getElem?_append_right (by rw [hs, Nat.succ_mul]; omega), hs]
      have : (i + 1) * sz + j - sz = i * sz + j := by rw [Nat.succ_mul]; omega
      rw [this]
      exact ih i x j u (by simpa using h) hu
theorem length_flatMap_enc {α : Type} (enc : α → List Value) (sz : Nat) (hs : ∀ x, (enc x).length = sz) (l : List α) : (l.flatMap enc).length = l.length * sz := by
  induction l with
  | nil => simp
  | cons a l ih => rw [List.flatMap_cons, List.length_append, ih, hs, List.length_cons, Nat.succ_mul]; omega

/-- what a call owns reads as a list -/
theorem RdL.of_own {α : Type} {w : World} {base : Nat} {e : TypeId} {sz : Nat} {v : Value} {n : Nat} {enc : α → List Value} {l : List α} (hs : ∀ x, (enc x).length = sz)
    (hn : n = l.length) (hcap : l.length ≤ 140737488355328) (h : w.ownsRow base e sz v n (l.flatMap enc)) : RdL w v sz enc l := by
  subst hn
  rcases h.2 with ⟨rfl, h0⟩ | ⟨g, cap, cur, rfl, hb, hg, hnc, hcm, hcs, ht⟩
  · have : l = [] := List.eq_nil_of_length_eq_zero h0
    subst this
    exact RdL.nil
  · refine ⟨some ⟨g, 0, none⟩, cap, rfl, hnc, hcap, fun _ => ⟨g, 0, rfl, (Array.getElem?_eq_some_iff.1 hg).1, ?_⟩⟩
    intro i x hx j u hu
    have hc := h.cells (g := g) rfl (i * sz + j) u (getElem?_flatMap enc sz hs l i x j u hx hu)
    have hadd : (⟨g, 0, none⟩ : Addr).add (i * sz + j) = ⟨g, 0 + i * sz + j, none⟩ := by
      unfold Addr.add; split <;> simp_all
    rw [hadd] at hc
    exact hc
theorem getElem?_lt {α : Type} {l : List α} {k : Nat} (h : k < l.length) : ∃ x, l[k]? = some x := ⟨l[k], List.getElem?_eq_getElem h⟩
theorem take_succ_of {α : Type} {l : List α} {k : Nat} {x : α} (h : l[k]? = some x) : l.take (k + 1) = l.take k ++ [x] := by
  rw [List.take_add_one, h]; rfl
theorem quiet_left {P : Program} {f : FuncId} {args : Array Value} {w : World} {n : Nat} {v : Value}
    (h : Calls P f args (w.drewN n) fun e w' => e = .returned v ∧ w.drewN n = w') : Calls P f args (w.drewN n) fun e w'' => e = .returned v ∧ ∃ m, w'' = w.drewN m :=
  h.mono fun _ _ ⟨he, hm⟩ => ⟨he, n, hm.symm⟩
theorem quiet_qt {P : Program} {f : FuncId} {args : Array Value} {w : World} {n : Nat} {v : Value}
    (h : Calls P f args (w.drewN n) fun e w' => e = .returned v ∧ Qt (w.drewN n) w') : Calls P f args (w.drewN n) fun e w'' => e = .returned v ∧ ∃ m, w'' = w.drewN m :=
  h.mono fun _ _ ⟨he, m, hm⟩ => ⟨he, n + m, by rw [hm, World.drewN_drewN]⟩
theorem quiet_add_left {P : Program} {f : FuncId} {args : Array Value} {w : World} {a n : Nat} {v : Value}
    (h : Calls P f args (w.drewN (a + n)) fun e w' => e = .returned v ∧ w.drewN (a + n) = w') :
    Calls P f args (w.drewN (a + n)) fun e w'' => e = .returned v ∧ ∃ m, w'' = w.drewN (a + m) :=
  h.mono fun _ _ ⟨he, hm⟩ => ⟨he, n, hm.symm⟩
theorem quiet_add_qt {P : Program} {f : FuncId} {args : Array Value} {w : World} {a n : Nat} {v : Value}
    (h : Calls P f args (w.drewN (a + n)) fun e w' => e = .returned v ∧ Qt (w.drewN (a + n)) w') :
    Calls P f args (w.drewN (a + n)) fun e w'' => e = .returned v ∧ ∃ m, w'' = w.drewN (a + m) :=
  h.mono fun _ _ ⟨he, m, hm⟩ => ⟨he, n + m, by rw [hm, World.drewN_drewN, Nat.add_assoc]⟩

def encI (z : Int) : List Value := [.int .i64 z]
theorem encI_len (z : Int) : (encI z).length = 1 := rfl
/-- a block known whole -/
def Blk (w : World) (g : Nat) (t : TypeId) (cs : Array Value) : Prop := w.heap[g]? = some (.cells cs t (0, 0))
section
variable {w w' : World} {g : Nat} {t : TypeId} {cs : Array Value}
theorem Blk.lt (h : Blk w g t cs) : g < w.heap.size := lt_of_block h
theorem Blk.cell (h : Blk w g t cs) (i : Nat) : w.cell? ⟨g, i, none⟩ = cs[i]? := cell_of_row w g i cs t (0, 0) h
theorem Blk.free (h : Blk w g t cs) (i : Nat) : w.frozen? ⟨g, i, none⟩ = false := by unfold Blk at h; simp [World.frozen?, h]
theorem Blk.new (w : World) (t : TypeId) (cs : Array Value) : Blk (w.alloc (.cells cs t)) w.heap.size t cs := heap_alloc_new w _
theorem Blk.new' (w : World) (t : TypeId) (cs : Array Value) {g : Nat} (hg : g = w.heap.size) : Blk (w.alloc (.cells cs t)) g t cs := by subst hg; exact heap_alloc_new w _
theorem Blk.drewN (h : Blk w g t cs) (n : Nat) : Blk (w.drewN n) g t cs := h
theorem Blk.drew (h : Blk w g t cs) : Blk w.drew g t cs := h
theorem Blk.alloc (h : Blk w g t cs) (o : Obj) : Blk (w.alloc o) g t cs := (Below.heap_alloc w o g h.lt).trans h
theorem Blk.set_ (h : Blk w g t cs) (i : Nat) (u : Value) : Blk (w.setCell ⟨g, i, none⟩ u) g t (cs.setIfInBounds i u) := by
  unfold Blk at h ⊢
  simp [World.setCell, Array.getElem?_modify, h]
theorem Blk.far (h : Blk w g t cs) {p : Addr} (hp : g ≠ p.block) (u : Value) : Blk (w.setCell p u) g t cs := (Below.heap_setCell w p u g hp).trans h
theorem Blk.below {B : Nat} (h : Blk w g t cs) (hb : Below B w w') (hg : g < B) : Blk w' g t cs := (hb.block g hg).trans h
theorem Blk.grown {row : Option Nat} (h : Blk w g t cs) (hb : w.grownBy w' row) (hg : some g ≠ row) : Blk w' g t cs := (hb.block g h.lt hg).trans h
end
theorem grown_refl (w : World) (row : Option Nat) : w.grownBy w row := ⟨rfl, rfl, rfl, Nat.le_refl _, fun _ _ _ => rfl⟩
theorem grown_alloc {a w : World} {row : Option Nat} (h : a.grownBy w row) (o : Obj) : a.grownBy (w.alloc o) row :=
  ⟨h.os, h.tape, h.output, Nat.le_trans h.size (by simp), fun i hi hne => (Below.heap_alloc w o i (Nat.lt_of_lt_of_le hi h.size)).trans (h.block i hi hne)⟩
theorem grown_set {a w : World} {g : Nat} (h : a.grownBy w (some g)) (o : Nat) (u : Value) : a.grownBy (w.setCell ⟨g, o, none⟩ u) (some g) :=
  ⟨h.os, h.tape, h.output, by simpa [World.setCell] using h.size, fun i hi hne => (Below.heap_setCell w ⟨g, o, none⟩ u i (by
    rintro rfl
    exact hne rfl)).trans (h.block i hi hne)⟩
theorem grown_drewN {a w : World} {row : Option Nat} (h : a.grownBy w row) (n : Nat) : a.grownBy (w.drewN n) row := ⟨h.os, h.tape, h.output, h.size, h.block⟩
theorem grown_trans {a b c : World} {row : Option Nat} (h : a.grownBy b row) (k : b.grownBy c row) : a.grownBy c row :=
  ⟨k.os.trans h.os, k.tape.trans h.tape, k.output.trans h.output, Nat.le_trans h.size k.size, fun i hi hne => (k.block i (Nat.lt_of_lt_of_le hi h.size) hne).trans (h.block i hi hne)⟩
theorem grown_of_below {a w : World} (h : Below a.heap.size a w) (row : Option Nat) : a.grownBy w row := ⟨h.os, h.tape, h.output, h.size, fun i hi _ => h.block i hi⟩
theorem eq_of_take {α : Type} {a b : List α} (hn : a.length = b.length) (h : a.take a.length = b.take a.length) : a = b := by
  rw [List.take_length] at h
  rw [h, hn, List.take_length]
def encP (p : Int × Int) : List Value := [.int .i64 p.1, .int .i64 p.2]
theorem encP_len (p : Int × Int) : (encP p).length = 2 := rfl
theorem ret_bool {a b : Bool} (h : a = b) : Ending.returned (.bool a) = .returned (.bool b) := by rw [h]
theorem ret_int {k : IntKind} {a b : Int} (h : a = b) : Ending.returned (.int k a) = .returned (.int k b) := by rw [h]
theorem own_form {w : World} {base : Nat} {e : TypeId} {sz : Nat} {v : Value} {n : Nat} {xs : List Value} (h : w.ownsRow base e sz v n xs) : ∃ A c, v = .slice A n c := by
  rcases h.2 with ⟨rfl, rfl⟩ | ⟨g, cap, cur, rfl, _⟩
  · exact ⟨_, _, rfl⟩
  · exact ⟨_, _, rfl⟩
theorem own_form1 {w : World} {base : Nat} {e : TypeId} {sz : Nat} {v : Value} {n : Nat} {xs : List Value} (h : w.ownsRow base e sz v n xs) (hn : 0 < n) :
    ∃ g c, v = .slice (some ⟨g, 0, none⟩) n c ∧ base ≤ g ∧ g < w.heap.size := by
  rcases h.2 with ⟨rfl, rfl⟩ | ⟨g, cap, cur, rfl, hb, hg, _⟩
  · omega
  · exact ⟨_, _, rfl, hb, (Array.getElem?_eq_some_iff.1 hg).1⟩
end Go.Proofs.YtfiigndlnihioaaGreat
end
section
/- Layer 45: what budget.Right, family.out and family.Size compute; the closure that adds picks. -/
namespace Go.Proofs.YtfiigndlnihioaaGreat
open Go.RowKit

def rightBF (b : Int) : Bool := decide (0 ≤ b ∧ b ≤ 1000)
def outN (b : Int) : Nat := if 0 < b then 6 else 5
def sizeN (b m : Int) : Int := if b < 0 ∨ 1000 < b ∨ m < 0 ∨ 4000 < m then 0 else if 4000 < 4 + m * (9 + (outN b : Int)) + 4 then 0 else 4 + m * (9 + (outN b : Int)) + 4

theorem out_any (b : Int) (w : World) : Calls Tryz.prog 35 #[.int .i64 b] w fun e w' => e = .returned (.int .i64 (outN b : Int)) ∧ w = w' := by
  by_cases h : 0 < b
  · go_enter Tryz.func35, Tryz.ntmps35
    go_wp2
    go_ret
    exact ⟨ret_int (by simp [outN, h]), rfl⟩
  · go_enter Tryz.func35, Tryz.ntmps35
    go_wp2
    go_ret
    exact ⟨ret_int (by unfold outN; rw [if_neg (by omega)]; rfl), rfl⟩

theorem right_yes (b : Int) (w : World) (h0 : 0 ≤ b) (h1 : b ≤ 1000) : Calls Tryz.prog 32 #[.int .i64 b] w fun e w' => e = .returned (.bool true) ∧ w = w' := by
  go_enter Tryz.func32, Tryz.ntmps32
  go_wp2
  go_ret
  exact ⟨rfl, rfl⟩
theorem right_no (b : Int) (w : World) (h : b < 0 ∨ 1000 < b) : Calls Tryz.prog 32 #[.int .i64 b] w fun e w' => e = .returned (.bool false) ∧ w = w' := by
  rcases h with h | h
  · go_enter Tryz.func32, Tryz.ntmps32
    go_wp2
    go_ret
    exact ⟨rfl, rfl⟩
  · have h0 : 0 ≤ b := by omega
    have h1 : ¬ b ≤ 1000 := by omega
    go_enter Tryz.func32, Tryz.ntmps32
    go_wp2
    go_ret
    exact ⟨rfl, rfl⟩

set_option maxHeartbeats 400000 in
theorem size_any (b m : Int) (w : World) : Calls Tryz.prog 33 #[.int .i64 b, .int .i64 m] w fun e w' => e = .returned (.int .i64 (sizeN b m)) ∧ w = w' := by
  by_cases hb : b < 0 ∨ 1000 < b
  · go_enter Tryz.func33, Tryz.ntmps33
    go_wp2_with (go_at_call 32; refine (right_no _ _ hb).mono ?_; rintro e w' ⟨rfl, rfl⟩)
    go_ret
    exact ⟨ret_int (by unfold sizeN; rw [if_pos (by omega)]), rfl⟩
  · have h0 : 0 ≤ b := by omega
    have h1 : b ≤ 1000 := by omega
    clear hb
    by_cases m0 : m < 0
    · go_enter Tryz.func33, Tryz.ntmps33
      go_wp2_with (go_at_call 32; refine (right_yes _ _ h0 h1).mono ?_; rintro e w' ⟨rfl, rfl⟩)
      go_ret
      exact ⟨ret_int (by unfold sizeN; rw [if_pos (by omega)]), rfl⟩
    · by_cases m1 : 4000 < m
      · go_enter Tryz.func33, Tryz.ntmps33
        go_wp2_with (go_at_call 32; refine (right_yes _ _ h0 h1).mono ?_; rintro e w' ⟨rfl, rfl⟩)
        go_ret
        exact ⟨ret_int (by unfold sizeN; rw [if_pos (by omega)]), rfl⟩
      · obtain ⟨o, ho, ho2⟩ : ∃ o : Nat, o = outN b ∧ o ≤ 6 := ⟨_, rfl, by unfold outN; split <;> omega⟩
        have hn : sizeN b m = if 4000 < 4 + m * (9 + (o : Int)) + 4 then 0 else 4 + m * (9 + (o : Int)) + 4 := by
          unfold sizeN; rw [if_neg (by omega), ho]
        have hmul : 0 ≤ m * (9 + (o : Int)) ∧ m * (9 + (o : Int)) ≤ 4000 * 15 := ⟨Int.mul_nonneg (by omega) (by omega), Int.mul_le_mul (by omega) (by omega) (by omega) (by omega)⟩
        obtain ⟨hm1, hm2⟩ := hmul
        have HN := Lib.hid hn
        have HO := Lib.hid ho
        clear hn ho
        have OUT : ∀ w, Calls Tryz.prog 35 #[.int .i64 b] w fun e w' => e = .returned (.int .i64 (o : Int)) ∧ w = w' := fun w => by rw [HO.out]; exact out_any b w
        have OUTH := Lib.hid OUT
        clear OUT
        by_cases hs : 4000 < 4 + m * (9 + (o : Int)) + 4
        all_goals
          go_enter Tryz.func33, Tryz.ntmps33
          go_wp2_with (first | (go_at_call 32; refine (right_yes _ _ h0 h1).mono ?_; rintro e w' ⟨rfl, rfl⟩) | (go_at_call 35; refine (OUTH.out _).mono ?_; rintro e w' ⟨rfl, rfl⟩))
          go_ret
        · exact ⟨ret_int (by rw [HN.out, if_pos hs]), rfl⟩
        · exact ⟨ret_int (by rw [HN.out, if_neg (by omega)]), rfl⟩
end Go.Proofs.YtfiigndlnihioaaGreat
end
section
/- Layer 45: the closure of family.Script: it appends picks to the slice in a captured variable. -/
namespace Go.Proofs.YtfiigndlnihioaaGreat
open Go.RowKit

theorem Tryz.infoPick : (Tryz.prog.info? 42).map (fun i => (i.zero, i.size, i.bytes)) = some (some (.agg #[.int .i64 0, .int .i64 0]), 2, 16) := by kernel_rfl

/-- what a call of add lays behind the picks -/
def addL (t want : Int) (steps : Nat) : List (Int × Int) := (if want = 0 then [] else [(t, want)]) ++ List.replicate steps (t, 0)

/-- the captured variable at block B holds a slice of the call's own that reads as l -/
def Cap (w : World) (B base : Nat) (l : List (Int × Int)) : Prop :=
  ∃ v, w.heap[B]? = some (.cells #[v] 23 (0, 0)) ∧ w.ownsRow base 42 2 v l.length (l.flatMap encP) ∧ B < base ∧ base ≤ w.heap.size

theorem pick_cells (w : World) (x y : Int) : ∀ j u, (encP (x, y))[j]? = some u → (w.alloc (.cells #[.int .i64 x, .int .i64 y] 42)).cell? ((⟨w.heap.size, 0, none⟩ : Addr).add j) = some u := by
  intro j u hu
  have hadd : (⟨w.heap.size, 0, none⟩ : Addr).add j = ⟨w.heap.size, j, none⟩ := by unfold Addr.add; split <;> simp_all
  rw [hadd, cell_of_row (w.alloc _) w.heap.size j _ _ (0, 0) (heap_alloc_new w _)]
  simpa [encP] using hu
theorem pick_one (x y : Int) : ∀ u ∈ encP (x, y), u.oneCell' = true := by
  intro u hu; simp [encP] at hu; rcases hu with rfl | rfl <;> rfl

/-- one pick appended, and the variable written: what the walk needs and what is left -/
theorem cap_add {w w2 : World} {B base : Nat} {l : List (Int × Int)} {v v' : Value} {x y : Int} {o : Obj}
    (hB : w.heap[B]? = some (.cells #[v] 23 (0, 0))) (hown : w.ownsRow base 42 2 v l.length (l.flatMap encP)) (hlt : B < base) (hle : base ≤ w.heap.size)
    (h2 : w2.ownsRow base 42 2 v' (l.length + 1) (l.flatMap encP ++ encP (x, y))) (hg : (w.alloc o).grownBy w2 v.ownBlock) :
    w2.heap[B]? = some (.cells #[v] 23 (0, 0)) ∧ Cap (w2.setCell ⟨B, 0, none⟩ v') B base (l ++ [(x, y)]) ∧ Below B w (w2.setCell ⟨B, 0, none⟩ v') := by
  have hr : ∀ k, v.ownBlock = some k → B < k := fun k hk => by have := (hown.lt k hk).1; omega
  have hne : some B ≠ v.ownBlock := fun e => by have := hr B e.symm; omega
  have hb2 : w2.heap[B]? = some (.cells #[v] 23 (0, 0)) := by
    rw [hg.block B (by simp; omega) hne, Below.heap_alloc _ _ _ (by omega)]
    exact hB
  have hs2 : w.heap.size + 1 ≤ w2.heap.size := by have := hg.size; simpa using this
  refine ⟨hb2, ⟨v', one_setCell hb2, ?_, hlt, by simp [World.setCell]; omega⟩, ?_⟩
  · have h3 := ownsRow_setCell_below h2 (a := ⟨B, 0, none⟩) hlt v'
    simpa [List.flatMap_append, List.flatMap_cons] using h3
  · exact (((Below.refl B w).alloc (by omega) o).grown hg (by simp; omega) (fun k hk => by have := hr k hk; omega)).setCell (Nat.le_refl _) v'

/-- the loop of add, from any list on -/
theorem rep_snoc (l : List (Int × Int)) (k : Nat) (x : Int × Int) : l ++ List.replicate (k + 1) x = (l ++ List.replicate k x) ++ [x] := by
  rw [List.replicate_succ', List.append_assoc]

set_option maxHeartbeats 1000000 in
theorem addF_any (w0 : World) (B base : Nat) (l : List (Int × Int)) (t want : Int) (steps : Nat) (hc : Cap w0 B base l) (hl : l.length + steps ≤ 5000) :
    Calls Tryz.prog 34 #[.int .i64 t, .int .i64 want, .int .i64 (steps : Int), .pointer (some ⟨B, 0, none⟩)] w0 fun e w' => e = .returned (.tuple #[]) ∧ Cap w' B base (l ++ addL t want steps) ∧ Below B w0 w' := by
  obtain ⟨i0, hi, hz0, hz1, hz2⟩ := info_parts Tryz.infoPick
  by_cases hw : want = 0
  · subst hw
    go_enter Tryz.func34, Tryz.ntmps34
    go_wp2
    go_loopw [16] (fun i w => ∃ k : Nat, k ≤ steps ∧ i = .int .i64 k ∧ Cap w B base (l ++ List.replicate k (t, 0)) ∧ Below B w0 w) (fun i _ => steps - (intOf i).toNat)
    case atStart => exact ⟨0, by omega, rfl, by simpa using hc, Below.refl _ _⟩
    case round =>
      obtain ⟨k, hk, rfl, hcap, hbel⟩ := hrel
      by_cases hlt : k < steps
      · obtain ⟨m, hm⟩ : ∃ m, m = l ++ List.replicate k (t, (0 : Int)) := ⟨_, rfl⟩
        have hml : m.length ≤ 5000 := by rw [hm]; simp; omega
        rw [← hm] at hcap
        have HM := Lib.hid hm
        clear hm
        obtain ⟨v, hB, hown, hlt2, hle⟩ := hcap
        have hcB := cell_of_one hB
        have hfB := free_of_one hB
        have hBs : B < wr.heap.size := by omega
        go_wp2_with (at_builtin; refine wpList_append_own _ rfl _ _ 23 rfl base 42 i0 (.agg #[.int .i64 0, .int .i64 0]) 2 16 Tryz.underlying23 hi hz0 hz1 hz2 rfl (by decide) _ _ _ rfl (hown.alloc _) ⟨wr.heap.size, 0, none⟩ 1 1 (encP (t, 0)) rfl rfl (pick_cells wr t 0) (pick_one t 0) ?c3 ?c4 ?c5 ?_)
        case c3 => unfold maxLen; omega
        case c4 => omega
        case c5 => simp; omega
        intro v' w2 h2 hg _
        obtain ⟨A', c', rfl⟩ := own_form h2
        obtain ⟨hb2, hcap', hbel'⟩ := cap_add hB hown hlt2 hle h2 hg
        have hc2 := cell_of_one hb2
        have hf2 := free_of_one hb2
        clear hcB hfB
        go_wp2
        go_roundw
        case rel => exact ⟨k + 1, by omega, by go_num, by rw [rep_snoc, ← HM.out]; exact hcap', hbel.trans hbel'⟩
        case measure => simp [intOf]; omega
      · obtain rfl : k = steps := by omega
        go_wp2
        go_end0
        exact ⟨rfl, by simpa [addL] using hcap, hbel⟩
  · have hwb : (want == 0) = false := by simpa using hw
    have hwb2 : (want != 0) = true := by simpa using hw
    obtain ⟨v, hB, hown, hlt2, hle⟩ := hc
    have hcB := cell_of_one hB
    have hfB := free_of_one hB
    have hBs : B < w0.heap.size := by omega
    go_enter Tryz.func34, Tryz.ntmps34
    go_wp2_with (at_builtin; refine wpList_append_own _ rfl _ _ 23 rfl base 42 i0 (.agg #[.int .i64 0, .int .i64 0]) 2 16 Tryz.underlying23 hi hz0 hz1 hz2 rfl (by decide) _ _ _ rfl (hown.alloc _) ⟨w0.heap.size, 0, none⟩ 1 1 (encP (t, want)) rfl rfl (pick_cells w0 t want) (pick_one t want) ?c3 ?c4 ?c5 ?_)
    case c3 => unfold maxLen; omega
    case c4 => omega
    case c5 => simp; omega
    intro v' w2 h2 hg _
    obtain ⟨A', c', rfl⟩ := own_form h2
    obtain ⟨hb2, hcap1, hbel1⟩ := cap_add hB hown hlt2 hle h2 hg
    have hc2 := cell_of_one hb2
    have hf2 := free_of_one hb2
    have HF := Lib.hid (And.intro hcap1 hbel1)
    clear hcB hfB hcap1 hbel1 hB hown h2 hg hb2
    go_wp2
    go_loopw [16] (fun i w => ∃ k : Nat, k ≤ steps ∧ i = .int .i64 k ∧ Cap w B base ((l ++ [(t, want)]) ++ List.replicate k (t, 0)) ∧ Below B w0 w) (fun i _ => steps - (intOf i).toNat)
    case atStart => exact ⟨0, by omega, rfl, by simpa using HF.out.1, HF.out.2⟩
    case round =>
      obtain ⟨k, hk, rfl, hcap, hbel⟩ := hrel
      clear HF hc2 hf2
      by_cases hlt : k < steps
      · obtain ⟨m, hm⟩ : ∃ m, m = (l ++ [(t, want)]) ++ List.replicate k (t, (0 : Int)) := ⟨_, rfl⟩
        have hml : m.length ≤ 5001 := by rw [hm]; simp; omega
        rw [← hm] at hcap
        have HM := Lib.hid hm
        clear hm
        obtain ⟨v, hB, hown, hlt2, hle⟩ := hcap
        have hcB := cell_of_one hB
        have hfB := free_of_one hB
        have hBs : B < wr.heap.size := by omega
        go_wp2_with (at_builtin; refine wpList_append_own _ rfl _ _ 23 rfl base 42 i0 (.agg #[.int .i64 0, .int .i64 0]) 2 16 Tryz.underlying23 hi hz0 hz1 hz2 rfl (by decide) _ _ _ rfl (hown.alloc _) ⟨wr.heap.size, 0, none⟩ 1 1 (encP (t, 0)) rfl rfl (pick_cells wr t 0) (pick_one t 0) ?d3 ?d4 ?d5 ?_)
        case d3 => unfold maxLen; omega
        case d4 => omega
        case d5 => simp; omega
        intro v' w2 h2 hg _
        obtain ⟨A', c', rfl⟩ := own_form h2
        obtain ⟨hb2, hcap', hbel'⟩ := cap_add hB hown hlt2 hle h2 hg
        have hc2 := cell_of_one hb2
        have hf2 := free_of_one hb2
        clear hcB hfB
        go_wp2
        go_roundw
        case rel => exact ⟨k + 1, by omega, by go_num, by rw [rep_snoc, ← HM.out]; exact hcap', hbel.trans hbel'⟩
        case measure => simp [intOf]; omega
      · obtain rfl : k = steps := by omega
        go_wp2
        go_end0
        exact ⟨rfl, by simpa [addL, hw, List.append_assoc] using hcap, hbel⟩
end Go.Proofs.YtfiigndlnihioaaGreat
end
section
/- Layer 45: what family.Script hands back. -/
namespace Go.Proofs.YtfiigndlnihioaaGreat
open Go.RowKit

def roundL (b : Int) : List (Int × Int) := addL 1 1 7 ++ addL 1 2 (outN b)
def partL (b : Int) (k : Nat) : List (Int × Int) := addL 0 1 3 ++ (List.replicate k (roundL b)).flatten
def scriptL (b : Int) (m : Nat) : List (Int × Int) := partL b m ++ addL 0 0 4

theorem outN_le (b : Int) : outN b ≤ 6 := by unfold outN; split <;> omega
theorem addL_len (t w : Int) (s : Nat) : (addL t w s).length ≤ s + 1 := by unfold addL; split <;> simp <;> omega
theorem roundL_len (b : Int) : (roundL b).length = 9 + outN b := by simp [roundL, addL]; omega
theorem partL_len (b : Int) (k : Nat) : (partL b k).length = 4 + k * (9 + outN b) := by
  simp [partL, addL, roundL_len]; omega
theorem scriptL_len (b : Int) (m : Nat) : (scriptL b m).length = 4 + m * (9 + outN b) + 4 := by simp [scriptL, partL_len, addL]
theorem partL_succ (b : Int) (k : Nat) : partL b (k + 1) = (partL b k ++ addL 1 1 7) ++ addL 1 2 (outN b) := by
  simp [partL, List.replicate_succ', roundL, List.append_assoc]

theorem add_call (w0 : World) (B base : Nat) (l : List (Int × Int)) (t want s : Int) (steps : Nat) (hs : s = (steps : Int)) (hc : Cap w0 B base l) (hl : l.length + steps ≤ 5000) :
    Calls Tryz.prog 34 #[.int .i64 t, .int .i64 want, .int .i64 s, .pointer (some ⟨B, 0, none⟩)] w0 fun e w' => e = .returned (.tuple #[]) ∧ Cap w' B base (l ++ addL t want steps) ∧ Below B w0 w' := by
  subst hs; exact addF_any w0 B base l t want steps hc hl

theorem script_arg (b m : Int) (w : World) (h : b < 0 ∨ 1000 < b ∨ m < 0) : Calls Tryz.prog 7 #[.int .i64 b, .int .i64 m] w fun e w' => e = .returned (.tuple #[.slice none 0 0, .int .i64 1]) ∧ w = w' := by
  by_cases hb : b < 0 ∨ 1000 < b
  · clear h
    go_enter Tryz.func7, Tryz.ntmps7
    go_wp2_with (go_at_call 32; refine (right_no _ _ hb).mono ?_; rintro e w' ⟨rfl, rfl⟩)
    go_ret2
    exact ⟨rfl, rfl⟩
  · have h0 : 0 ≤ b := by omega
    have h1 : b ≤ 1000 := by omega
    have hm : m < 0 := by omega
    clear h hb
    go_enter Tryz.func7, Tryz.ntmps7
    go_wp2_with (go_at_call 32; refine (right_yes _ _ h0 h1).mono ?_; rintro e w' ⟨rfl, rfl⟩)
    go_ret2
    exact ⟨rfl, rfl⟩

theorem script_many (b m : Int) (w : World) (h0 : 0 ≤ b) (h1 : b ≤ 1000) (hm : 0 ≤ m) (hz : sizeN b m = 0) : Calls Tryz.prog 7 #[.int .i64 b, .int .i64 m] w fun e w' => e = .returned (.tuple #[.slice none 0 0, .int .i64 8]) ∧ w = w' := by
  have SZ : ∀ w, Calls Tryz.prog 33 #[.int .i64 b, .int .i64 m] w fun e w' => e = .returned (.int .i64 0) ∧ w = w' := fun w => by rw [← hz]; exact size_any b m w
  have HS := Lib.hid SZ
  clear SZ hz
  go_enter Tryz.func7, Tryz.ntmps7
  go_wp2_with (first | (go_at_call 32; refine (right_yes _ _ h0 h1).mono ?_; rintro e w' ⟨rfl, rfl⟩) | (go_at_call 33; refine (HS.out _).mono ?_; rintro e w' ⟨rfl, rfl⟩))
  go_ret2
  exact ⟨rfl, rfl⟩

theorem size_pos (b : Int) (m : Nat) (hb : 0 ≤ b ∧ b ≤ 1000) (h : 4 + m * (9 + outN b) + 4 ≤ 4000) : sizeN b m = ((4 + m * (9 + outN b) + 4 : Nat) : Int) := by
  have h9 : m * 9 ≤ m * (9 + outN b) := Nat.mul_le_mul_left m (by omega)
  unfold sizeN
  rw [if_neg (by omega)]
  have e : (m : Int) * (9 + (outN b : Int)) = ((m * (9 + outN b) : Nat) : Int) := by simp
  rw [e, if_neg (by omega)]
  omega
theorem size_zero (b : Int) (m : Nat) (_hb : 0 ≤ b ∧ b ≤ 1000) (h : ¬ 4 + m * (9 + outN b) + 4 ≤ 4000) : sizeN b m = 0 := by
  unfold sizeN
  split
  · rfl
  · have e : (m : Int) * (9 + (outN b : Int)) = ((m * (9 + outN b) : Nat) : Int) := by simp
    rw [e, if_pos (by omega)]

theorem cap_nil (w : World) : Cap (w.alloc (.cells #[.slice none 0 0] 23)) w.heap.size (w.heap.size + 1) [] :=
  ⟨_, heap_alloc_new w _, World.ownsRow_nil _ _ _ _, by omega, by simp⟩

set_option maxHeartbeats 1000000 in
theorem script_ok (b : Int) (m : Nat) (w : World) (h0 : 0 ≤ b) (h1 : b ≤ 1000) (hsz : 4 + m * (9 + outN b) + 4 ≤ 4000) :
    Calls Tryz.prog 7 #[.int .i64 b, .int .i64 m] w fun e w' => ∃ v, e = .returned (.tuple #[v, .int .i64 0]) ∧ RdL w' v 2 encP (scriptL b m) ∧ Below w.heap.size w w' := by
  have h9 : m * 9 ≤ m * (9 + outN b) := Nat.mul_le_mul_left m (by omega)
  have hm0 : (0 : Int) ≤ m := by omega
  have hmm : (m : Int) ≤ 4000 := by omega
  have hmf : ∀ (fn : Fn) (first cap : Array Value) (w : World), (Instr.makeFunc fn first cap).run Tryz.prog w = .ok (.func fn first cap) w := fun _ _ _ _ => rfl
  obtain ⟨n, hn, hn2⟩ : ∃ n : Nat, n = 4 + m * (9 + outN b) + 4 ∧ 8 ≤ n := ⟨_, rfl, by omega⟩
  have SZ : ∀ w, Calls Tryz.prog 33 #[.int .i64 b, .int .i64 m] w fun e w' => e = .returned (.int .i64 (n : Int)) ∧ w = w' := fun w => by
    have := size_any b m w
    rw [size_pos b m ⟨h0, h1⟩ hsz, ← hn] at this
    exact this
  have HS := Lib.hid SZ
  have HP : Hid (∀ k, k ≤ m → (partL b k).length + 20 ≤ 5000) := fun k hk => by
    rw [partL_len]; have : k * (9 + outN b) ≤ m * (9 + outN b) := Nat.mul_le_mul_right _ hk
    omega
  have HN := Lib.hid hn
  have HZ := Lib.hid hsz
  have hO := outN_le b
  clear SZ hn hsz h9
  go_enter Tryz.func7, Tryz.ntmps7
  go_wp2_with (first | (go_at_call 32; refine (right_yes _ _ h0 h1).mono ?_; rintro e w' ⟨rfl, rfl⟩) | (go_at_call 33; refine (HS.out _).mono ?_; rintro e w' ⟨rfl, rfl⟩))
  refine (add_call _ w.heap.size (w.heap.size + 1) [] 0 1 3 3 rfl (cap_nil w) (by simp)).mono ?_
  rintro e w1 ⟨rfl, hc1, hb1⟩
  go_wp2_with fail
  go_loopw [25] (fun i wr => ∃ k : Nat, k ≤ m ∧ i = .int .i64 k ∧ Cap wr w.heap.size (w.heap.size + 1) (partL b k) ∧ Below w.heap.size w wr) (fun i _ => m - (intOf i).toNat)
  case atStart => exact ⟨0, by omega, rfl, by simpa [partL] using hc1, ((Below.refl _ _).alloc (Nat.le_refl _) _).trans hb1⟩
  case round =>
    obtain ⟨k, hk, rfl, hcap, hbel⟩ := hrel
    have hP := HP.out k hk
    clear hc1 hb1
    by_cases hlt : k < m
    · have HC := Lib.hid hcap
      clear hcap
      go_wp2_with fail
      refine (add_call _ w.heap.size (w.heap.size + 1) (partL b k) 1 1 7 7 rfl HC.out (by omega)).mono ?_
      rintro e w2 ⟨rfl, hc2, hb2⟩
      have HC2 := Lib.hid hc2
      clear hc2
      go_wp2_with (go_at_call 35; refine (out_any _ _).mono ?_; rintro e w' ⟨rfl, rfl⟩)
      refine (add_call _ w.heap.size (w.heap.size + 1) (partL b k ++ addL 1 1 7) 1 2 (outN b) (outN b) rfl HC2.out (by have := addL_len 1 1 7; simp only [List.length_append]; omega)).mono ?_
      rintro e w3 ⟨rfl, hc3, hb3⟩
      rw [← partL_succ] at hc3
      have HC3 := Lib.hid hc3
      clear hc3
      go_wp2
      go_roundw
      case rel => exact ⟨k + 1, by omega, by go_num, HC3.out, (hbel.trans hb2).trans hb3⟩
      case measure => simp [intOf]; omega
    · obtain rfl : k = m := by omega
      have HC := Lib.hid hcap
      clear hcap
      go_wp2_with fail
      refine (add_call _ w.heap.size (w.heap.size + 1) (partL b k) 0 0 4 4 rfl HC.out (by omega)).mono ?_
      rintro e w2 ⟨rfl, hc2, hb2⟩
      obtain ⟨q, hq⟩ : ∃ q, q = partL b k ++ addL 0 0 4 := ⟨_, rfl⟩
      rw [← hq] at hc2
      have hql : q.length ≤ 140737488355328 := by have := scriptL_len b k; have := HZ.out; unfold scriptL at *; rw [hq]; omega
      have HQ : Hid (q = scriptL b k) := hq
      have HL := Lib.hid hql
      clear hq hql
      obtain ⟨v, hB, hown, hlt2, hle⟩ := hc2
      have hcB := cell_of_one hB
      obtain ⟨A', c', rfl⟩ := own_form hown
      have HO := Lib.hid hown
      clear hown hB
      go_wp2
      go_ret2
      exact ⟨_, rfl, by rw [← HQ.out]; exact RdL.of_own encP_len rfl HL.out HO.out, hbel.trans hb2⟩
end Go.Proofs.YtfiigndlnihioaaGreat
end
section
/- The arena and spots as plain data. No program in sight. -/
namespace Go.Proofs.YtfiigndlnihioaaGreat
open Go

/-- an arena: the words that were taken, the room, how many ops, the last one -/
structure Ar where
  W : List Int
  room : Nat
  ops : Nat
  k : Int
  at_ : Int
  wr : Bool
def inR (W : List Int) (x : Int) : Bool := decide (1 ≤ x ∧ x ≤ W.length)
def ldW (W : List Int) (x : Int) : Int := if inR W x then W.getD (x.toNat - 1) 0 else 0
def stW (W : List Int) (x v : Int) : List Int := if inR W x then W.set (x.toNat - 1) v else W
def noteA (s : Ar) (k x : Int) (wr : Bool) : Ar := if inR s.W x then { s with ops := s.ops + 1, k := k, at_ := x, wr := wr } else s
def wrA (s : Ar) (x v : Int) : Ar := { s with W := stW s.W x v }
def loadA (s : Ar) (x : Int) : Ar := noteA s 1 x false
def storeA (s : Ar) (x v : Int) : Ar := wrA (noteA s 2 x true) x v
def swapA (s : Ar) (x v : Int) : Ar := wrA (noteA s 3 x true) x v
def casB (s : Ar) (x old : Int) : Bool := inR s.W x && decide (ldW s.W x = old)
def casA (s : Ar) (x old v : Int) : Ar := if casB s x old then wrA (noteA s 4 x true) x v else noteA s 4 x false
def addA (s : Ar) (x d : Int) : Ar := wrA (noteA s 5 x true) x (IntKind.i64.wrap (ldW s.W x + d))

theorem stW_len (W : List Int) (x v : Int) : (stW W x v).length = W.length := by unfold stW; split <;> simp
theorem inR_true {W : List Int} {x : Int} : inR W x = true ↔ 1 ≤ x ∧ x ≤ W.length := by unfold inR; exact decide_eq_true_iff
theorem inR_false {W : List Int} {x : Int} : inR W x = false ↔ ¬ (1 ≤ x ∧ x ≤ W.length) := by unfold inR; exact decide_eq_false_iff_not

structure Sp where
  pc : Int
  a : Int
  b : Int
  c : Int
def Sp.zero : Sp := ⟨0, 0, 0, 0⟩
theorem sp_ext {p q : Sp} (h1 : p.pc = q.pc) (h2 : p.a = q.a) (h3 : p.b = q.b) (h4 : p.c = q.c) : p = q := by cases p; cases q; simp at *; exact ⟨h1, h2, h3, h4⟩

def okI (S : List Sp) (i : Int) : Prop := 0 ≤ i ∧ i < S.length
instance (S : List Sp) (i : Int) : Decidable (okI S i) := by unfold okI; infer_instance
def getS (S : List Sp) (i : Int) : Sp := if 0 ≤ i ∧ i < S.length then S.getD i.toNat Sp.zero else Sp.zero

theorem getS_in {S : List Sp} {i : Int} (h : okI S i) : S[i.toNat]? = some (getS S i) := by
  unfold getS
  rw [if_pos (show 0 ≤ i ∧ i < S.length from h), List.getD_eq_getElem?_getD]
  have : i.toNat < S.length := by have := h.1; have := h.2; omega
  rw [List.getElem?_eq_getElem this]; rfl
theorem getS_out {S : List Sp} {i : Int} (h : ¬ okI S i) : getS S i = Sp.zero := by unfold getS; rw [if_neg (show ¬ (0 ≤ i ∧ i < S.length) from h)]

def sv (S : List Sp) (j : Nat) : Sp := S.getD j Sp.zero
theorem getD_set {α : Type} (l : List α) (i j : Nat) (a d : α) : (l.set i a).getD j d = if i = j ∧ i < l.length then a else l.getD j d := by
  rw [List.getD_eq_getElem?_getD, List.getD_eq_getElem?_getD, List.getElem?_set]
  by_cases h : i = j
  · subst h
    by_cases h2 : i < l.length
    · simp [h2]
    · simp [h2]
  · simp [h]
theorem sv_set (S : List Sp) (i j : Nat) (p : Sp) : sv (S.set i p) j = if i = j ∧ i < S.length then p else sv S j := getD_set _ _ _ _ _
theorem noteA_W (s : Ar) (k x : Int) (wr : Bool) : (noteA s k x wr).W = s.W := by unfold noteA; split <;> rfl
theorem noteA_out (s : Ar) (k x : Int) (wr : Bool) (h : inR s.W x = false) : noteA s k x wr = s := by unfold noteA; rw [h]; rfl
theorem wrA_out (s : Ar) (x v : Int) (h : inR s.W x = false) : wrA s x v = s := by unfold wrA stW; rw [h]; rfl
theorem ldW_in {W : List Int} {x : Int} (h : inR W x = true) : ldW W x = W.getD (x.toNat - 1) 0 := by unfold ldW; rw [if_pos h]
theorem ldW_out {W : List Int} {x : Int} (h : inR W x = false) : ldW W x = 0 := by unfold ldW; rw [h]; rfl
theorem wrA_W (s : Ar) (x v : Int) : (wrA s x v).W = stW s.W x v := rfl
theorem loadA_W (s : Ar) (x : Int) : (loadA s x).W = s.W := noteA_W _ _ _ _
theorem storeA_W (s : Ar) (x v : Int) : (storeA s x v).W = stW s.W x v := by unfold storeA; rw [wrA_W, noteA_W]
theorem swapA_W (s : Ar) (x v : Int) : (swapA s x v).W = stW s.W x v := by unfold swapA; rw [wrA_W, noteA_W]
theorem casA_W (s : Ar) (x o v : Int) : (casA s x o v).W = if casB s x o then stW s.W x v else s.W := by unfold casA; split <;> rename_i h <;> simp only [wrA_W, noteA_W]
theorem addA_W (s : Ar) (x d : Int) : (addA s x d).W = stW s.W x (IntKind.i64.wrap (ldW s.W x + d)) := by unfold addA; rw [wrA_W, noteA_W]
theorem noteA_ops (s : Ar) (k x : Int) (wr : Bool) : (noteA s k x wr).ops ≤ s.ops + 1 := by unfold noteA; split <;> simp
theorem wrA_ops (s : Ar) (x v : Int) : (wrA s x v).ops = s.ops := rfl
theorem loadA_ops (s : Ar) (x : Int) : (loadA s x).ops ≤ s.ops + 1 := noteA_ops _ _ _ _
theorem storeA_ops (s : Ar) (x v : Int) : (storeA s x v).ops ≤ s.ops + 1 := noteA_ops _ _ _ _
theorem swapA_ops (s : Ar) (x v : Int) : (swapA s x v).ops ≤ s.ops + 1 := noteA_ops _ _ _ _
theorem addA_ops (s : Ar) (x d : Int) : (addA s x d).ops ≤ s.ops + 1 := noteA_ops _ _ _ _
theorem casA_ops (s : Ar) (x o v : Int) : (casA s x o v).ops ≤ s.ops + 1 := by unfold casA; split <;> exact noteA_ops _ _ _ _
end Go.Proofs.YtfiigndlnihioaaGreat
end
section
/- Layers 15 to 20: the five flat locks as plain data: what a step of a slot does. No program in sight. -/
namespace Go.Proofs.YtfiigndlnihioaaGreat
open Go

/-- the number of who stands behind a slot's number, and of what it waits for -/
def mNx (t x : Int) : Int := t + 2 * x - 1
def mWt (t x : Int) : Int := t + 2 * x
def pPl (t m k : Int) : Int := t + 1 + k % m
def tasK (t m : Int) (s : Ar) (i : Int) (p : Sp) : Ar × Sp :=
  if p.pc = 1 then (casA s t 0 (i + 1), if casB s t 0 then { p with pc := 10 } else { p with pc := 2, b := p.a, a := min (2 * p.a) m })
  else if p.pc = 2 then (s, { p with b := p.b - 1, pc := if p.b - 1 = 0 then 1 else 2 })
  else if p.pc = 11 then (storeA s t 0, { p with pc := 0 })
  else (s, p)
def tickK (t : Int) (s : Ar) (p : Sp) : Ar × Sp :=
  if p.pc = 1 then (addA s t 1, { p with a := ldW s.W t, pc := 2 })
  else if p.pc = 2 then (loadA s (t + 1), { p with pc := if ldW s.W (t + 1) = p.a then 10 else 2 })
  else if p.pc = 11 then (storeA s (t + 1) (p.a + 1), { p with pc := 0 })
  else (s, p)
def partK (t m : Int) (s : Ar) (p : Sp) : Ar × Sp :=
  if p.pc = 1 then (addA s t 1, { p with a := ldW s.W t, pc := 2 })
  else if p.pc = 2 then (loadA s (pPl t m p.a), { p with pc := if ldW s.W (pPl t m p.a) = p.a + 1 then 10 else 2 })
  else if p.pc = 11 then (storeA s (pPl t m (p.a + 1)) (p.a + 2), { p with pc := 0 })
  else (s, p)
def mcsIn (t : Int) (s : Ar) (x : Int) (p : Sp) : Ar × Sp :=
  if p.pc = 1 then (storeA s (mNx t x) 0, { p with pc := 2 })
  else if p.pc = 2 then (storeA s (mWt t x) 1, { p with pc := 3 })
  else if p.pc = 3 then (swapA s t x, { p with a := ldW s.W t, pc := if ldW s.W t = 0 then 10 else 4 })
  else if p.pc = 4 then (storeA s (mNx t p.a) x, { p with pc := 5 })
  else (loadA s (mWt t x), { p with pc := if ldW s.W (mWt t x) = 0 then 10 else 5 })
def mcsOut (t : Int) (s : Ar) (x : Int) (p : Sp) : Ar × Sp :=
  if p.pc = 12 then (casA s t x 0, { p with pc := if casB s t x then 0 else 13 })
  else if p.pc = 14 then (storeA s (mWt t p.a) 0, { p with pc := 0 })
  else (loadA s (mNx t x), { p with a := ldW s.W (mNx t x), pc := if ldW s.W (mNx t x) ≠ 0 then 14 else if p.pc = 11 then 12 else 13 })
def mcsK (t : Int) (s : Ar) (i : Int) (p : Sp) : Ar × Sp :=
  if 0 < p.pc ∧ p.pc < 10 then mcsIn t s (i + 1) p else if 10 < p.pc then mcsOut t s (i + 1) p else (s, p)
def clhK (t : Int) (s : Ar) (p : Sp) : Ar × Sp :=
  if p.pc = 1 then (storeA s (t + p.a) 1, { p with pc := 2 })
  else if p.pc = 2 then (swapA s t p.a, { p with b := ldW s.W t, pc := 3 })
  else if p.pc = 3 then (loadA s (t + p.b), { p with pc := if ldW s.W (t + p.b) = 0 then 10 else 3 })
  else if p.pc = 11 then (storeA s (t + p.a) 0, { p with a := p.b, pc := 0 })
  else (s, p)
/-- a step of a slot of a lock of kind k -/
def stepK (k : Nat) (t m : Int) (s : Ar) (i : Int) (p : Sp) : Ar × Sp :=
  if k = 1 then tasK t m s i p else if k = 2 then tickK t s p else if k = 3 then partK t m s p else if k = 4 then mcsK t s i p else clhK t s p
/-- whether a step is told to have come somewhere -/
def cameK (p p' : Sp) : Bool := decide ((p'.pc = 10 ∨ p'.pc = 0) ∧ p.pc ≠ 0 ∧ p.pc ≠ 10)
def askK (k : Nat) (p : Sp) : Sp := if p.pc = 0 then (if k = 1 then { p with pc := 1, a := 1 } else { p with pc := 1 }) else p
def leaveK (p : Sp) : Sp := if p.pc = 10 then { p with pc := 11 } else p
/-- what a look does whether nobody waits -/
def aloneK (k : Nat) (t : Int) (s : Ar) (i : Int) (p : Sp) : Ar × Bool :=
  if p.pc = 10 then
    if k = 1 then (s, true) else if k = 2 ∨ k = 3 then (loadA s t, decide (ldW s.W t = p.a + 1))
    else if k = 4 then (loadA s (mNx t (i + 1)), decide (ldW s.W (mNx t (i + 1)) = 0)) else (loadA s t, decide (ldW s.W t = p.a))
  else (s, false)
end Go.Proofs.YtfiigndlnihioaaGreat
end
section
/- Layers 15 to 20: how large words and spots of a flat lock become: 2 more a step. No program in sight. -/
namespace Go.Proofs.YtfiigndlnihioaaGreat
open Go

def WdB (B : Int) (s : Ar) : Prop := ∀ v ∈ s.W, 0 ≤ v ∧ v ≤ B
structure SpB (k : Nat) (B : Int) (p : Sp) : Prop where
  a0 : 0 ≤ p.a
  a1 : p.a ≤ B
  b0 : -B ≤ p.b
  b1 : p.b ≤ B
  b2 : k ≠ 1 → 0 ≤ p.b
theorem WdB.mono {B C : Int} {s : Ar} (h : WdB B s) (hBC : B ≤ C) : WdB C s := fun v hv => ⟨(h v hv).1, by have := (h v hv).2; omega⟩
theorem SpB.mono {k : Nat} {B C : Int} {p : Sp} (h : SpB k B p) (hBC : B ≤ C) : SpB k C p := ⟨h.a0, by have := h.a1; omega, by have := h.b0; omega, by have := h.b1; omega, h.b2⟩
theorem WdB.ld {B : Int} {s : Ar} (h : WdB B s) (hB : 0 ≤ B) (x : Int) : 0 ≤ ldW s.W x ∧ ldW s.W x ≤ B := by
  by_cases hx : inR s.W x = true
  · rw [ldW_in hx]
    obtain ⟨h1, h2⟩ := inR_true.1 hx
    have hl : x.toNat - 1 < s.W.length := by omega
    rw [List.getD_eq_getElem?_getD, List.getElem?_eq_getElem hl]
    exact h _ (List.getElem_mem hl)
  · rw [ldW_out (by simpa using hx)]; exact ⟨Int.le_refl _, hB⟩
theorem WdB.st {B : Int} {s s' : Ar} (h : WdB B s) (x v : Int) (hv : 0 ≤ v ∧ v ≤ B) (e : s'.W = stW s.W x v) : WdB B s' := by
  intro u hu
  rw [e] at hu
  unfold stW at hu
  split at hu
  · rcases List.mem_or_eq_of_mem_set hu with h1 | h1
    · exact h u h1
    · rw [h1]; exact hv
  · exact h u hu
theorem WdB.same {B : Int} {s s' : Ar} (h : WdB B s) (e : s'.W = s.W) : WdB B s' := by intro u hu; rw [e] at hu; exact h u hu
theorem WdB.load {B : Int} {s : Ar} (h : WdB B s) (x : Int) : WdB B (loadA s x) := h.same (loadA_W _ _)
theorem WdB.store {B : Int} {s : Ar} (h : WdB B s) (x v : Int) (hv : 0 ≤ v ∧ v ≤ B) : WdB B (storeA s x v) := h.st x v hv (storeA_W _ _ _)
theorem WdB.swap {B : Int} {s : Ar} (h : WdB B s) (x v : Int) (hv : 0 ≤ v ∧ v ≤ B) : WdB B (swapA s x v) := h.st x v hv (swapA_W _ _ _)
theorem WdB.cas {B : Int} {s : Ar} (h : WdB B s) (x o v : Int) (hv : 0 ≤ v ∧ v ≤ B) : WdB B (casA s x o v) := by
  have e := casA_W s x o v
  split at e
  · exact h.st x v hv e
  · exact h.same e
theorem WdB.add1 {B : Int} {s : Ar} (h : WdB B s) (hB : 0 ≤ B) (hB2 : B ≤ 10000000000000) (x : Int) : WdB (B + 2) (addA s x 1) := by
  have hl := h.ld hB x
  refine (h.mono (by omega)).st x _ ?_ (addA_W _ _ _)
  rw [IntWalk.i64_in _ (by omega)]
  omega
theorem bd_step {k : Nat} {B : Int} {t m : Int} {s : Ar} {i : Int} {p : Sp} (hW : WdB B s) (hp : SpB k B p) (hB : 0 ≤ B) (hB2 : B ≤ 10000000000000) (hi : 0 ≤ i ∧ i + 1 ≤ B) (hm : 1 ≤ m ∧ m ≤ B) :
    WdB (B + 2) (stepK k t m s i p).1 ∧ SpB k (B + 2) (stepK k t m s i p).2 := by
  have hW2 : WdB (B + 2) s := hW.mono (by omega)
  have hl := fun x => hW.ld hB x
  have hp2 : SpB k (B + 2) p := hp.mono (by omega)
  have ha0 := hp.a0
  have ha1 := hp.a1
  have hb0 := hp.b0
  have hb1 := hp.b1
  have hb2 := hp.b2
  unfold stepK
  split
  · rename_i hk
    unfold tasK
    split
    · refine ⟨hW2.cas _ _ _ (by omega), ?_⟩
      split
      · exact ⟨by simpa using ha0, by show p.a ≤ _; omega, by show _ ≤ p.b; omega, by show p.b ≤ _; omega, fun h => absurd hk h⟩
      · refine ⟨?_, ?_, ?_, ?_, fun h => absurd hk h⟩
        · show 0 ≤ min (2 * p.a) m; omega
        · show min (2 * p.a) m ≤ _; omega
        · show _ ≤ p.a; omega
        · show p.a ≤ _; omega
    split
    · refine ⟨hW2, ?_, ?_, ?_, ?_, fun h => absurd hk h⟩
      · exact ha0
      · show p.a ≤ _; omega
      · show _ ≤ p.b - 1; omega
      · show p.b - 1 ≤ _; omega
    split
    · exact ⟨hW2.store _ _ (by omega), hp2.a0, hp2.a1, hp2.b0, hp2.b1, hp2.b2⟩
    · exact ⟨hW2, hp2⟩
  split
  · unfold tickK
    split
    · exact ⟨hW.add1 hB hB2 _, (hl _).1, by have := (hl t).2; show ldW s.W t ≤ _; omega, hp2.b0, hp2.b1, hp2.b2⟩
    split
    · exact ⟨hW2.load _, hp2.a0, hp2.a1, hp2.b0, hp2.b1, hp2.b2⟩
    split
    · exact ⟨hW2.store _ _ (by omega), hp2.a0, hp2.a1, hp2.b0, hp2.b1, hp2.b2⟩
    · exact ⟨hW2, hp2⟩
  split
  · unfold partK
    split
    · exact ⟨hW.add1 hB hB2 _, (hl _).1, by have := (hl t).2; show ldW s.W t ≤ _; omega, hp2.b0, hp2.b1, hp2.b2⟩
    split
    · exact ⟨hW2.load _, hp2.a0, hp2.a1, hp2.b0, hp2.b1, hp2.b2⟩
    split
    · exact ⟨hW2.store _ _ (by omega), hp2.a0, hp2.a1, hp2.b0, hp2.b1, hp2.b2⟩
    · exact ⟨hW2, hp2⟩
  have hv : ∀ x : Int, ldW s.W x ≤ B + 2 := fun x => by have := (hl x).2; omega
  split
  · unfold mcsK
    split
    · unfold mcsIn
      split
      · exact ⟨hW2.store _ _ (by omega), hp2.a0, hp2.a1, hp2.b0, hp2.b1, hp2.b2⟩
      split
      · exact ⟨hW2.store _ _ (by omega), hp2.a0, hp2.a1, hp2.b0, hp2.b1, hp2.b2⟩
      split
      · exact ⟨hW2.swap _ _ (by omega), (hl _).1, hv _, hp2.b0, hp2.b1, hp2.b2⟩
      split
      · exact ⟨hW2.store _ _ (by omega), hp2.a0, hp2.a1, hp2.b0, hp2.b1, hp2.b2⟩
      · exact ⟨hW2.load _, hp2.a0, hp2.a1, hp2.b0, hp2.b1, hp2.b2⟩
    split
    · unfold mcsOut
      split
      · exact ⟨hW2.cas _ _ _ (by omega), hp2.a0, hp2.a1, hp2.b0, hp2.b1, hp2.b2⟩
      split
      · exact ⟨hW2.store _ _ (by omega), hp2.a0, hp2.a1, hp2.b0, hp2.b1, hp2.b2⟩
      · exact ⟨hW2.load _, (hl _).1, hv _, hp2.b0, hp2.b1, hp2.b2⟩
    · exact ⟨hW2, hp2⟩
  · rename_i hk _ _ _
    unfold clhK
    split
    · exact ⟨hW2.store _ _ (by omega), hp2.a0, hp2.a1, hp2.b0, hp2.b1, hp2.b2⟩
    split
    · exact ⟨hW2.swap _ _ (by omega), hp2.a0, hp2.a1, by show _ ≤ ldW s.W t; have := (hl t).1; omega, hv _, fun _ => (hl _).1⟩
    split
    · exact ⟨hW2.load _, hp2.a0, hp2.a1, hp2.b0, hp2.b1, hp2.b2⟩
    split
    · exact ⟨hW2.store _ _ (by omega), hb2 hk, hp2.b1, hp2.b0, hp2.b1, hp2.b2⟩
    · exact ⟨hW2, hp2⟩
theorem bd_ask {k : Nat} {B : Int} {p : Sp} (hp : SpB k B p) (hB : 1 ≤ B) : SpB k B (askK k p) := by
  unfold askK
  split
  · split
    · exact ⟨by show (0 : Int) ≤ 1; omega, hB, hp.b0, hp.b1, hp.b2⟩
    · exact ⟨hp.a0, hp.a1, hp.b0, hp.b1, hp.b2⟩
  · exact hp
theorem bd_leave {k : Nat} {B : Int} {p : Sp} (hp : SpB k B p) : SpB k B (leaveK p) := by
  unfold leaveK
  split
  · exact ⟨hp.a0, hp.a1, hp.b0, hp.b1, hp.b2⟩
  · exact hp
end Go.Proofs.YtfiigndlnihioaaGreat
end
section
/- Layer 24 (cohort) as plain data: a step of a thread. No program in sight. -/
namespace Go.Proofs.YtfiigndlnihioaaGreat
open Go

/-- what does not change: kinds, the global lock's first word, how long or how many, the budget; each thread's node and slot, each node's first word and its count's -/
structure CoC where
  kg : Nat
  kl : Nat
  tg : Int
  m : Int
  bud : Int
  node : Nat → Nat
  slot : Nat → Nat
  tl : Nat → Int
  cw : Nat → Int
/-- what does: the arena, the spots of the global lock, of the local ones, of the threads -/
structure Co where
  s : Ar
  G : List Sp
  L : List (List Sp)
  T : List Sp
def lsp (L : List (List Sp)) (n i : Nat) : Sp := (L.getD n []).getD i Sp.zero
def lset (L : List (List Sp)) (n i : Nat) (p : Sp) : List (List Sp) := L.set n ((L.getD n []).set i p)
def passB (count bud : Int) (alone : Bool) : Bool := decide (1 ≤ count ∧ count ≤ bud) && !alone
/-- a step of a thread's local lock, of its node's global one -/
def stL (c : CoC) (st : Co) (i : Nat) : Ar × Sp := stepK c.kl (c.tl (c.node i)) c.m st.s (c.slot i) (lsp st.L (c.node i) (c.slot i))
def stG (c : CoC) (st : Co) (i : Nat) : Ar × Sp := stepK c.kg c.tg c.m st.s (c.node i) (sv st.G (c.node i))
def camL (c : CoC) (st : Co) (i : Nat) : Bool := cameK (lsp st.L (c.node i) (c.slot i)) (stL c st i).2
def camG (c : CoC) (st : Co) (i : Nat) : Bool := cameK (sv st.G (c.node i)) (stG c st i).2
def setL (c : CoC) (st : Co) (i : Nat) (p : Sp) : List (List Sp) := lset st.L (c.node i) (c.slot i) p
/-- what a step makes of the arena, the global spots, the local ones, the thread's spot -/
def coIn (c : CoC) (st : Co) (i : Nat) (p : Sp) : Ar × List Sp × List (List Sp) × Sp :=
  if p.pc = 1 then ((stL c st i).1, st.G, setL c st i (stL c st i).2, if camL c st i then { p with pc := 2 } else p)
  else if p.pc = 2 then
    if 0 < ldW st.s.W (c.cw (c.node i)) then (loadA st.s (c.cw (c.node i)), st.G, st.L, { p with a := ldW st.s.W (c.cw (c.node i)), pc := 10 })
    else (loadA st.s (c.cw (c.node i)), st.G.set (c.node i) (askK c.kg (sv st.G (c.node i))), st.L, { p with a := ldW st.s.W (c.cw (c.node i)), pc := 3 })
  else if p.pc = 3 then ((stG c st i).1, st.G.set (c.node i) (stG c st i).2, st.L, if camG c st i then { p with pc := 4 } else p)
  else if p.pc = 4 then (storeA st.s (c.cw (c.node i)) 1, st.G, st.L, { p with a := 1, pc := 10 })
  else (st.s, st.G, st.L, p)
def coOut (c : CoC) (st : Co) (i : Nat) (p : Sp) : Ar × List Sp × List (List Sp) × Sp :=
  if p.pc = 11 then (loadA st.s (c.cw (c.node i)), st.G, st.L, { p with a := ldW st.s.W (c.cw (c.node i)), pc := if c.bud < ldW st.s.W (c.cw (c.node i)) then 14 else 12 })
  else if p.pc = 12 then
    ((aloneK c.kl (c.tl (c.node i)) st.s (c.slot i) (lsp st.L (c.node i) (c.slot i))).1, st.G, st.L,
      { p with pc := if passB p.a c.bud (aloneK c.kl (c.tl (c.node i)) st.s (c.slot i) (lsp st.L (c.node i) (c.slot i))).2 then 13 else 14 })
  else if p.pc = 13 then (storeA st.s (c.cw (c.node i)) (p.a + 1), st.G, setL c st i (leaveK (lsp st.L (c.node i) (c.slot i))), { p with pc := 16 })
  else if p.pc = 14 then (storeA st.s (c.cw (c.node i)) 0, st.G.set (c.node i) (leaveK (sv st.G (c.node i))), st.L, { p with pc := 15 })
  else if p.pc = 15 then
    if camG c st i then ((stG c st i).1, st.G.set (c.node i) (stG c st i).2, setL c st i (leaveK (lsp st.L (c.node i) (c.slot i))), { p with pc := 16 })
    else ((stG c st i).1, st.G.set (c.node i) (stG c st i).2, st.L, p)
  else if p.pc = 16 then ((stL c st i).1, st.G, setL c st i (stL c st i).2, if camL c st i then { p with pc := 0 } else p)
  else (st.s, st.G, st.L, p)
def coMv (c : CoC) (st : Co) (i : Nat) (p : Sp) : Ar × List Sp × List (List Sp) × Sp := if p.pc < 10 then coIn c st i p else coOut c st i p
def coSet (st : Co) (i : Nat) (r : Ar × List Sp × List (List Sp) × Sp) : Co := ⟨r.1, r.2.1, r.2.2.1, st.T.set i r.2.2.2⟩
/-- a step, an ask and a leave of a thread that is one -/
def coStep (c : CoC) (st : Co) (i : Nat) : Co := if (sv st.T i).pc = 0 ∨ (sv st.T i).pc = 10 then st else coSet st i (coMv c st i (sv st.T i))
def coAsk (c : CoC) (st : Co) (i : Nat) : Co :=
  if (sv st.T i).pc = 0 then { st with L := setL c st i (askK c.kl (lsp st.L (c.node i) (c.slot i))), T := st.T.set i { (sv st.T i) with pc := 1 } } else st
def coLeave (st : Co) (i : Nat) : Co := if (sv st.T i).pc = 10 then { st with T := st.T.set i { (sv st.T i) with pc := 11 } } else st
/-- the bounds of all -/
structure CoB (c : CoC) (B : Int) (st : Co) : Prop where
  w : WdB B st.s
  g : ∀ p ∈ st.G, SpB c.kg B p
  l : ∀ x ∈ st.L, ∀ p ∈ x, SpB c.kl B p
  t : ∀ p ∈ st.T, 0 ≤ p.a ∧ p.a ≤ B
theorem spz (k : Nat) {B : Int} (hB : 0 ≤ B) : SpB k B Sp.zero := ⟨Int.le_refl _, hB, by show -B ≤ 0; omega, hB, fun _ => Int.le_refl _⟩
theorem getD_memZ {S : List Sp} {P : Sp → Prop} (h : ∀ p ∈ S, P p) (hz : P Sp.zero) (i : Nat) : P (S.getD i Sp.zero) := by
  rw [List.getD_eq_getElem?_getD]
  by_cases hi : i < S.length
  · rw [List.getElem?_eq_getElem hi]; exact h _ (List.getElem_mem hi)
  · rw [List.getElem?_eq_none (by omega)]; exact hz
theorem all_set {α : Type} {S : List α} {P : α → Prop} (h : ∀ p ∈ S, P p) (i : Nat) {p : α} (hp : P p) : ∀ q ∈ S.set i p, P q := by
  intro q hq
  rcases List.mem_or_eq_of_mem_set hq with h1 | h1
  · exact h q h1
  · rw [h1]; exact hp
section
variable {c : CoC} {B : Int} {st : Co}
theorem CoB.lall (h : CoB c B st) (n : Nat) : ∀ p ∈ st.L.getD n [], SpB c.kl B p := by
  rw [List.getD_eq_getElem?_getD]
  by_cases hi : n < st.L.length
  · rw [List.getElem?_eq_getElem hi]; exact h.l _ (List.getElem_mem hi)
  · rw [List.getElem?_eq_none (by omega)]; intro p hp; cases hp
theorem CoB.lsp (h : CoB c B st) (hB : 0 ≤ B) (n i : Nat) : SpB c.kl B (lsp st.L n i) := getD_memZ (h.lall n) (spz _ hB) i
theorem CoB.gsp (h : CoB c B st) (hB : 0 ≤ B) (n : Nat) : SpB c.kg B (sv st.G n) := getD_memZ h.g (spz _ hB) n
theorem CoB.tsp (h : CoB c B st) (hB : 0 ≤ B) (n : Nat) : 0 ≤ (sv st.T n).a ∧ (sv st.T n).a ≤ B := getD_memZ (P := fun p => 0 ≤ p.a ∧ p.a ≤ B) h.t ⟨Int.le_refl _, hB⟩ n
theorem CoB.mono (h : CoB c B st) {C : Int} (hC : B ≤ C) : CoB c C st :=
  ⟨h.w.mono hC, fun p hp => (h.g p hp).mono hC, fun x hx p hp => (h.l x hx p hp).mono hC, fun p hp => ⟨(h.t p hp).1, by have := (h.t p hp).2; omega⟩⟩
theorem CoB.setL (h : CoB c B st) (n i : Nat) {p : Sp} (hp : SpB c.kl B p) : ∀ x ∈ lset st.L n i p, ∀ q ∈ x, SpB c.kl B q := all_set h.l n (all_set (h.lall n) i hp)
/-- a step makes nothing larger by more than 2 -/
theorem coMv_bd (h : CoB c B st) (hB : 1 ≤ B) (hB2 : B ≤ 10000000000000) (i : Nat) (hs : (c.slot i : Int) + 1 ≤ B) (hn : (c.node i : Int) + 1 ≤ B) (hm : 1 ≤ c.m ∧ c.m ≤ B) (p : Sp) (hp : 0 ≤ p.a ∧ p.a ≤ B) :
    CoB c (B + 2) (coSet st i (coMv c st i p)) := by
  have h2 := h.mono (C := B + 2) (by omega)
  have hB0 : (0 : Int) ≤ B := by omega
  have hL := bd_step (t := c.tl (c.node i)) (m := c.m) (i := (c.slot i : Int)) h.w (h.lsp hB0 (c.node i) (c.slot i)) hB0 hB2 ⟨by omega, hs⟩ hm
  have hG := bd_step (t := c.tg) (m := c.m) (i := (c.node i : Int)) h.w (h.gsp hB0 (c.node i)) hB0 hB2 ⟨by omega, hn⟩ hm
  have hld := h.w.ld hB0 (c.cw (c.node i))
  have hp2 : 0 ≤ p.a ∧ p.a ≤ B + 2 := ⟨hp.1, by omega⟩
  have hT : ∀ q : Sp, (0 ≤ q.a ∧ q.a ≤ B + 2) → ∀ r ∈ st.T.set i q, 0 ≤ r.a ∧ r.a ≤ B + 2 := fun q hq => all_set h2.t i hq
  have hv : 0 ≤ ldW st.s.W (c.cw (c.node i)) ∧ ldW st.s.W (c.cw (c.node i)) ≤ B + 2 := ⟨hld.1, by omega⟩
  have hLv : SpB c.kl (B + 2) (leaveK (Go.Proofs.YtfiigndlnihioaaGreat.lsp st.L (c.node i) (c.slot i))) := bd_leave (h2.lsp (by omega) _ _)
  have hGv : SpB c.kg (B + 2) (leaveK (sv st.G (c.node i))) := bd_leave (h2.gsp (by omega) _)
  have hGa : SpB c.kg (B + 2) (askK c.kg (sv st.G (c.node i))) := bd_ask (h2.gsp (by omega) _) (by omega)
  unfold coMv
  split
  · unfold coIn
    split
    · exact ⟨hL.1, h2.g, h2.setL _ _ hL.2, hT _ (by split <;> exact hp2)⟩
    split
    · split
      · exact ⟨h2.w.load _, h2.g, h2.l, hT _ hv⟩
      · exact ⟨h2.w.load _, all_set h2.g _ hGa, h2.l, hT _ hv⟩
    split
    · exact ⟨hG.1, all_set h2.g _ hG.2, h2.l, hT _ (by split <;> exact hp2)⟩
    split
    · exact ⟨h2.w.store _ _ (by omega), h2.g, h2.l, hT _ ⟨by show (0 : Int) ≤ 1; omega, by show (1 : Int) ≤ _; omega⟩⟩
    · exact ⟨h2.w, h2.g, h2.l, hT _ hp2⟩
  · unfold coOut
    split
    · exact ⟨h2.w.load _, h2.g, h2.l, hT _ hv⟩
    split
    · refine ⟨?_, h2.g, h2.l, hT _ hp2⟩
      show WdB _ (aloneK _ _ _ _ _).1
      unfold aloneK
      split
      · split
        · exact h2.w
        split
        · exact h2.w.load _
        split <;> exact h2.w.load _
      · exact h2.w
    split
    · exact ⟨h2.w.store _ _ (by omega), h2.g, h2.setL _ _ hLv, hT _ hp2⟩
    split
    · exact ⟨h2.w.store _ _ (by omega), all_set h2.g _ hGv, h2.l, hT _ hp2⟩
    split
    · split
      · exact ⟨hG.1, all_set h2.g _ hG.2, h2.setL _ _ hLv, hT _ hp2⟩
      · exact ⟨hG.1, all_set h2.g _ hG.2, h2.l, hT _ hp2⟩
    split
    · exact ⟨hL.1, h2.g, h2.setL _ _ hL.2, hT _ (by split <;> exact hp2)⟩
    · exact ⟨h2.w, h2.g, h2.l, hT _ hp2⟩
end
end Go.Proofs.YtfiigndlnihioaaGreat
end
