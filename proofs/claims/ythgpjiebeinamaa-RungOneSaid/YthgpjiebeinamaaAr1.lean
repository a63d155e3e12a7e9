/- Layer 1: the arena as plain data, how it lies in memory, and what its small functions do. -/
import Derived.Test.YthgpjiebeinamaaRows
import Derived.Test.YthgpjiebeinamaaTurn
import Derived.Laws.LoneSync
import Derived.Laws.OwnMore
import Derived.OwnWalk
import Derived.RegionCalls
namespace Go.Proofs.Ythgpjiebeinamaa
open Go.RowKit

/-- an arena: the words that were taken, the room, how many ops, the last one -/
structure Ar where
  W : List Int
  room : Nat
  ops : Nat
  k : Int
  at_ : Int
  wr : Bool
def inR (W : List Int) (x : Int) : Bool := decide (1 ≤ x ∧ x ≤ W.length)
def ldW (W : List Int) (x : Int) : Int := if inR W x then W.getD (x.toNat - 1) 0 else 0
def stW (W : List Int) (x v : Int) : List Int := if inR W x then W.set (x.toNat - 1) v else W
def noteA (s : Ar) (k x : Int) (wr : Bool) : Ar := if inR s.W x then { s with ops := s.ops + 1, k := k, at_ := x, wr := wr } else s
def wrA (s : Ar) (x v : Int) : Ar := { s with W := stW s.W x v }
def loadA (s : Ar) (x : Int) : Ar := noteA s 1 x false
def storeA (s : Ar) (x v : Int) : Ar := wrA (noteA s 2 x true) x v
def swapA (s : Ar) (x v : Int) : Ar := wrA (noteA s 3 x true) x v
def casB (s : Ar) (x old : Int) : Bool := inR s.W x && decide (ldW s.W x = old)
def casA (s : Ar) (x old v : Int) : Ar := if casB s x old then wrA (noteA s 4 x true) x v else noteA s 4 x false
def addA (s : Ar) (x d : Int) : Ar := wrA (noteA s 5 x true) x (IntKind.i64.wrap (ldW s.W x + d))

def arCells (g : Nat) (s : Ar) : Array Value := #[.slice (some ⟨g, 0, none⟩) s.room s.room, .int .i64 s.W.length, .int .i64 s.ops, .int .i64 s.k, .int .i64 s.at_, .bool s.wr]
def wdL (s : Ar) : List Value := (s.W ++ List.replicate (s.room - s.W.length) 0).map (Value.int .i64)
structure ArIs (w : World) (a g : Nat) (s : Ar) : Prop where
  blk : Blk w a 77 (arCells g s)
  wds : Blk w g 88 (wdL s).toArray
  ne : a ≠ g
  le : s.W.length ≤ s.room
  room : s.room ≤ 4096
  ops : s.ops ≤ 1000000000000
theorem ArIs.turns {w w' : World} {a g : Nat} {s : Ar} {S : List Nat} (h : ArIs w a g s) (k : Turns S w w') (ha : a ∉ S) (hg : g ∉ S) : ArIs w' a g s :=
  ⟨k.blk h.blk ha, k.blk h.wds hg, h.ne, h.le, h.room, h.ops⟩
theorem ArIs.word {w : World} {a g : Nat} {s : Ar} (h : ArIs w a g s) {i : Nat} (hi : i < s.W.length) : w.cell? ⟨g, i, none⟩ = some (.int .i64 (s.W.getD i 0)) ∧ w.frozen? ⟨g, i, none⟩ = false := by
  refine ⟨?_, h.wds.free i⟩
  rw [h.wds.cell i]
  simp [wdL, List.getElem?_append, hi]
theorem wdL_set (s : Ar) {i : Nat} (hi : i < s.W.length) (v : Int) : (wdL s).toArray.setIfInBounds i (.int .i64 v) = (wdL { s with W := s.W.set i v }).toArray := by
  unfold wdL
  simp only [List.setIfInBounds_toArray, List.length_set]
  congr 1
  rw [← List.map_set, List.set_append_left _ _ hi]
theorem stW_len (W : List Int) (x v : Int) : (stW W x v).length = W.length := by unfold stW; split <;> simp
theorem inR_true {W : List Int} {x : Int} : inR W x = true ↔ 1 ≤ x ∧ x ≤ W.length := by unfold inR; exact decide_eq_true_iff
theorem inR_false {W : List Int} {x : Int} : inR W x = false ↔ ¬ (1 ≤ x ∧ x ≤ W.length) := by unfold inR; exact decide_eq_false_iff_not

section
variable {w : World} {a g : Nat} {s : Ar}
theorem ArIs.c0 (h : ArIs w a g s) : w.cell? ⟨a, 0, none⟩ = some (.slice (some ⟨g, 0, none⟩) s.room s.room) := h.blk.cell 0
theorem ArIs.c1 (h : ArIs w a g s) : w.cell? ⟨a, 1, none⟩ = some (.int .i64 s.W.length) := h.blk.cell 1
theorem ArIs.c2 (h : ArIs w a g s) : w.cell? ⟨a, 2, none⟩ = some (.int .i64 s.ops) := h.blk.cell 2
theorem ArIs.c3 (h : ArIs w a g s) : w.cell? ⟨a, 3, none⟩ = some (.int .i64 s.k) := h.blk.cell 3
theorem ArIs.c4 (h : ArIs w a g s) : w.cell? ⟨a, 4, none⟩ = some (.int .i64 s.at_) := h.blk.cell 4
theorem ArIs.c5 (h : ArIs w a g s) : w.cell? ⟨a, 5, none⟩ = some (.bool s.wr) := h.blk.cell 5
end

theorem len_any {w : World} {a g : Nat} {s : Ar} (h : ArIs w a g s) :
    Calls Try.prog 44 #[.pointer (some ⟨a, 0, none⟩)] w fun e w' => e = .returned (.int .i64 s.W.length) ∧ w = w' := by
  have c1 := h.c1
  clear h
  go_enter Try.func44, Try.ntmps44
  go_wp2
  go_ret
  exact ⟨rfl, rfl⟩
theorem aops_any {w : World} {a g : Nat} {s : Ar} (h : ArIs w a g s) :
    Calls Try.prog 16 #[.pointer (some ⟨a, 0, none⟩)] w fun e w' => e = .returned (.int .i64 s.ops) ∧ w = w' := by
  have c1 := h.c2
  clear h
  go_enter Try.func16, Try.ntmps16
  go_wp2
  go_ret
  exact ⟨rfl, rfl⟩
theorem word_in {w : World} {a g : Nat} {s : Ar} (h : ArIs w a g s) (x : Int) (hx : inR s.W x = true) :
    Calls Try.prog 107 #[.pointer (some ⟨a, 0, none⟩), .int .i64 x] w fun e w' => e = .returned (.pointer (some ⟨g, x.toNat - 1, none⟩)) ∧ w = w' := by
  have c0 := h.c0
  have H := Lib.hid h
  have hl := h.le
  have hr := h.room
  obtain ⟨h1, h2⟩ := inR_true.1 hx
  obtain ⟨n, rfl⟩ : ∃ n : Nat, x = ((n + 1 : Nat) : Int) := ⟨x.toNat - 1, by omega⟩
  have e1 : ((n + 1 : Nat) : Int).toNat - 1 = n := by omega
  rw [e1]
  have t1 : ¬ ((n + 1 : Nat) : Int) < 1 := by omega
  have t2 : ¬ (s.W.length : Int) < ((n + 1 : Nat) : Int) := by omega
  have t3 : (n : Int) < s.room := by omega
  clear h hx h1 h2 e1
  go_enter Try.func107, Try.ntmps107
  go_wp2_with (go_at_call 44; refine (len_any H.out).mono ?_; rintro e w' ⟨rfl, rfl⟩)
  go_ret
  exact ⟨by simp, rfl⟩
theorem word_out {w : World} {a g : Nat} {s : Ar} (h : ArIs w a g s) (x : Int) (hx : inR s.W x = false) :
    Calls Try.prog 107 #[.pointer (some ⟨a, 0, none⟩), .int .i64 x] w fun e w' => e = .returned (.pointer none) ∧ w = w' := by
  have H := Lib.hid h
  have hx' := inR_false.1 hx
  clear h hx
  by_cases h1 : x < 1
  · go_enter Try.func107, Try.ntmps107
    go_wp2_with (go_at_call 44; refine (len_any H.out).mono ?_; rintro e w' ⟨rfl, rfl⟩)
    go_ret
    exact ⟨rfl, rfl⟩
  · have t2 : (s.W.length : Int) < x := by omega
    clear hx'
    go_enter Try.func107, Try.ntmps107
    go_wp2_with (go_at_call 44; refine (len_any H.out).mono ?_; rintro e w' ⟨rfl, rfl⟩)
    go_ret
    exact ⟨rfl, rfl⟩
theorem note_any {w : World} {a g : Nat} {s : Ar} (h : ArIs w a g s) (k x : Int) (wr : Bool) (hx : inR s.W x = true) (ho : s.ops + 1 ≤ 1000000000000) :
    Calls Try.prog 108 #[.pointer (some ⟨a, 0, none⟩), .int .i64 k, .int .i64 x, .bool wr] w fun e w' => e = .returned (.tuple #[]) ∧ ArIs w' a g (noteA s k x wr) ∧ Turns [a] w w' := by
  have c2 := h.c2
  have c3 := h.c3
  have c4 := h.c4
  have c5 := h.c5
  have f2 := h.blk.free 2
  have f3 := h.blk.free 3
  have f4 := h.blk.free 4
  have f5 := h.blk.free 5
  have hl := h.blk.lt
  have H := Lib.hid h
  have HX := Lib.hid hx
  clear h hx
  go_enter Try.func108, Try.ntmps108
  go_wp2
  go_end0
  refine ⟨rfl, ?_, ?_⟩
  · have hb := (((H.out.blk.set_ 2 (.int .i64 (s.ops + 1))).set_ 3 (.int .i64 k)).set_ 4 (.int .i64 x)).set_ 5 (.bool wr)
    have hw := (((H.out.wds.far (p := ⟨a, 2, none⟩) H.out.ne.symm (.int .i64 (s.ops + 1))).far (p := ⟨a, 3, none⟩) H.out.ne.symm (.int .i64 k)).far (p := ⟨a, 4, none⟩) H.out.ne.symm (.int .i64 x)).far (p := ⟨a, 5, none⟩) H.out.ne.symm (.bool wr)
    have e : noteA s k x wr = { s with ops := s.ops + 1, k := k, at_ := x, wr := wr } := by unfold noteA; rw [if_pos HX.out]
    rw [e]
    exact ⟨hb, hw, H.out.ne, H.out.le, H.out.room, ho⟩
  · exact ((((Turns.refl _ _).setCell (.inl (by simp)) _).setCell (.inl (by simp)) _).setCell (.inl (by simp)) _).setCell (.inl (by simp)) _
end Go.Proofs.Ythgpjiebeinamaa
