/- Joined: Fld2, Pl, Ar1, Ar2, Ar3, Ar4, Hc1, Shut. -/
import GoSem.Core.View
import Derived.Test.YtkdaiomjbkpedaaGreatRows
import Derived.Laws.LoneSync
import Derived.Laws.OwnMore
import Derived.OwnWalk
import Derived.RegionCalls
import Derived.Laws.Externs
import Derived.Deep.QuietTactic
import Derived.BigQuiet
import Derived.Deep.RegionHeld3
import Derived.Test.YtkdaiomjbkpedaaGreatMgHmcsTenure1
section
/- Layer 2: Pack, Index, Number, Marked. -/
namespace Go.Proofs.YtkdaiomjbkpedaaGreat
open Go.RowKit

theorem fidx_any (w : World) (x : Int) (h0 : 0 ≤ x) (h1 : x < 9223372036854775808) : Calls Tryz.prog 147 #[.int .i64 x] w fun e w' => e = .returned (.int .i64 (x % 65536)) ∧ Below w.heap.size w w' := by
  go_enter Tryz.func147, Tryz.ntmps147
  go_wp2_with fail
  refine (get_index w x h0 h1).mono ?_
  rintro en w1 ⟨rfl, b1⟩
  have B1 := Lib.hid b1
  clear b1
  go_wp2
  go_ret
  exact ⟨rfl, B1.out⟩
theorem fnum_any (w : World) (x : Int) (h0 : 0 ≤ x) (h1 : x < 9223372036854775808) : Calls Tryz.prog 149 #[.int .i64 x] w fun e w' => e = .returned (.int .i64 (x / 65536)) ∧ Below w.heap.size w w' := by
  go_enter Tryz.func149, Tryz.ntmps149
  go_wp2_with fail
  refine (get_number w x h0 h1).mono ?_
  rintro en w1 ⟨rfl, b1⟩
  have B1 := Lib.hid b1
  clear b1
  go_wp2
  go_ret
  exact ⟨rfl, B1.out⟩
theorem marked_any (w : World) (x : Int) (h0 : 0 ≤ x) (h1 : x < 9223372036854775808) : Calls Tryz.prog 148 #[.int .i64 x] w fun e w' => e = .returned (.bool false) ∧ Below w.heap.size w w' := by
  go_enter Tryz.func148, Tryz.ntmps148
  go_wp2_with fail
  refine (get_mark w x h0 h1).mono ?_
  rintro en w1 ⟨rfl, b1⟩
  have B1 := Lib.hid b1
  clear b1
  go_wp2
  go_ret
  exact ⟨rfl, B1.out⟩
theorem marked_qt (w : World) (x : Int) (h0 : 0 ≤ x) (h1 : x < 9223372036854775808) : Calls Tryz.prog 148 #[.int .i64 x] w fun e w' => e = .returned (.bool false) ∧ Qt w w' := by
  go_enter Tryz.func148, Tryz.ntmps148
  go_wp2_with fail
  refine (mark_qt w x h0 h1).mono ?_
  rintro en w1 ⟨rfl, b1⟩
  have B1 := Lib.hid b1
  clear b1
  go_wp2
  go_ret
  exact ⟨rfl, B1.out⟩
theorem fits_index (w : World) (v : Int) (h2 : 0 ≤ v) (h3 : v < 65536) : Calls Tryz.prog 161 #[.int .i64 0, .int .i64 v] w fun e w' => e = .returned (.bool true) ∧ Below w.heap.size w w' := by
  go_enter Tryz.func161, Tryz.ntmps161
  go_wp2_with fail
  refine (set_index w 0 v rfl h2 h3).mono ?_
  rintro en w1 ⟨rfl, b1⟩
  have B1 := Lib.hid b1
  clear b1
  go_wp2_with fail
  refine (get_index w1 v h2 (by omega)).mono ?_
  rintro en w2 ⟨rfl, b2⟩
  have B2 := Lib.hid (B1.out.trans (b2.mono B1.out.size))
  have e : v % 65536 = v := by omega
  rw [e]
  clear b2 e
  go_wp2
  go_ret
  exact ⟨ret_bool (by simp), B2.out⟩
theorem fits_number (w : World) (v : Int) (h2 : 0 ≤ v) (h3 : v < 140737488355328) : Calls Tryz.prog 161 #[.int .i64 1, .int .i64 v] w fun e w' => e = .returned (.bool true) ∧ Below w.heap.size w w' := by
  go_enter Tryz.func161, Tryz.ntmps161
  go_wp2_with fail
  refine (set_number w 0 v (by omega) (by omega) h2 h3).mono ?_
  rintro en w1 ⟨rfl, b1⟩
  have B1 := Lib.hid b1
  clear b1
  obtain ⟨x, hx⟩ : ∃ x, x = v * 65536 + 0 := ⟨_, rfl⟩
  rw [← hx]
  have HX := Lib.hid hx
  clear hx
  go_wp2_with fail
  refine (get_number w1 x (by have := HX.out; omega) (by have := HX.out; omega)).mono ?_
  rintro en w2 ⟨rfl, b2⟩
  have B2 := Lib.hid (B1.out.trans (b2.mono B1.out.size))
  have e : x / 65536 = v := by have := HX.out; omega
  rw [e]
  clear b2 e
  go_wp2
  go_ret
  exact ⟨ret_bool (by simp), B2.out⟩
theorem pack_any (w : World) (i n : Int) (h0 : 0 ≤ i) (h1 : i < 65536) (h2 : 0 ≤ n) (h3 : n < 140737488355328) : Calls Tryz.prog 146 #[.int .i64 i, .int .i64 n] w fun e w' => e = .returned (.tuple #[.int .i64 (n * 65536 + i), .int .i64 0]) ∧ Below w.heap.size w w' := by
  go_enter Tryz.func146, Tryz.ntmps146
  go_wp2_with fail
  refine (fits_index w i h0 h1).mono ?_
  rintro en w1 ⟨rfl, b1⟩
  have B1 := Lib.hid b1
  clear b1
  go_wp2_with fail
  refine (fits_number w1 n h2 h3).mono ?_
  rintro en w2 ⟨rfl, b2⟩
  have B2 := Lib.hid (B1.out.trans (b2.mono B1.out.size))
  clear b2
  go_wp2_with fail
  refine (set_index w2 0 i rfl h0 h1).mono ?_
  rintro en w3 ⟨rfl, b3⟩
  have B3 := Lib.hid (B2.out.trans (b3.mono B2.out.size))
  clear b3
  go_wp2_with fail
  refine (set_number w3 i n h0 h1 h2 h3).mono ?_
  rintro en w4 ⟨rfl, b4⟩
  have B4 := Lib.hid (B3.out.trans (b4.mono B3.out.size))
  clear b4
  go_wp2
  go_ret2
  exact ⟨rfl, B4.out⟩
end Go.Proofs.YtkdaiomjbkpedaaGreat
end
section
/- The arena and spots as plain data. No program in sight. -/
namespace Go.Proofs.YtkdaiomjbkpedaaGreat
open Go

/-- an arena: the words that were taken, the room, how many ops, the last one -/
structure Ar where
  W : List Int
  room : Nat
  ops : Nat
  k : Int
  at_ : Int
  wr : Bool
def inR (W : List Int) (x : Int) : Bool := decide (1 ≤ x ∧ x ≤ W.length)
def ldW (W : List Int) (x : Int) : Int := if inR W x then W.getD (x.toNat - 1) 0 else 0
def stW (W : List Int) (x v : Int) : List Int := if inR W x then W.set (x.toNat - 1) v else W
def noteA (s : Ar) (k x : Int) (wr : Bool) : Ar := if inR s.W x then { s with ops := s.ops + 1, k := k, at_ := x, wr := wr } else s
def wrA (s : Ar) (x v : Int) : Ar := { s with W := stW s.W x v }
def loadA (s : Ar) (x : Int) : Ar := noteA s 1 x false
def storeA (s : Ar) (x v : Int) : Ar := wrA (noteA s 2 x true) x v
def swapA (s : Ar) (x v : Int) : Ar := wrA (noteA s 3 x true) x v
def casB (s : Ar) (x old : Int) : Bool := inR s.W x && decide (ldW s.W x = old)
def casA (s : Ar) (x old v : Int) : Ar := if casB s x old then wrA (noteA s 4 x true) x v else noteA s 4 x false
def addA (s : Ar) (x d : Int) : Ar := wrA (noteA s 5 x true) x (IntKind.i64.wrap (ldW s.W x + d))

theorem stW_len (W : List Int) (x v : Int) : (stW W x v).length = W.length := by unfold stW; split <;> simp
theorem inR_true {W : List Int} {x : Int} : inR W x = true ↔ 1 ≤ x ∧ x ≤ W.length := by unfold inR; exact decide_eq_true_iff
theorem inR_false {W : List Int} {x : Int} : inR W x = false ↔ ¬ (1 ≤ x ∧ x ≤ W.length) := by unfold inR; exact decide_eq_false_iff_not

structure Sp where
  pc : Int
  a : Int
  b : Int
  c : Int
def Sp.zero : Sp := ⟨0, 0, 0, 0⟩
theorem sp_ext {p q : Sp} (h1 : p.pc = q.pc) (h2 : p.a = q.a) (h3 : p.b = q.b) (h4 : p.c = q.c) : p = q := by cases p; cases q; simp at *; exact ⟨h1, h2, h3, h4⟩

def okI (S : List Sp) (i : Int) : Prop := 0 ≤ i ∧ i < S.length
instance (S : List Sp) (i : Int) : Decidable (okI S i) := by unfold okI; infer_instance
def getS (S : List Sp) (i : Int) : Sp := if 0 ≤ i ∧ i < S.length then S.getD i.toNat Sp.zero else Sp.zero

theorem getS_in {S : List Sp} {i : Int} (h : okI S i) : S[i.toNat]? = some (getS S i) := by
  unfold getS
  rw [if_pos (show 0 ≤ i ∧ i < S.length from h), List.getD_eq_getElem?_getD]
  have : i.toNat < S.length := by have := h.1; have := h.2; omega
  rw [List.getElem?_eq_getElem this]; rfl
theorem getS_out {S : List Sp} {i : Int} (h : ¬ okI S i) : getS S i = Sp.zero := by unfold getS; rw [if_neg (show ¬ (0 ≤ i ∧ i < S.length) from h)]

def sv (S : List Sp) (j : Nat) : Sp := S.getD j Sp.zero
theorem getD_set {α : Type} (l : List α) (i j : Nat) (a d : α) : (l.set i a).getD j d = if i = j ∧ i < l.length then a else l.getD j d := by
  rw [List.getD_eq_getElem?_getD, List.getD_eq_getElem?_getD, List.getElem?_set]
  by_cases h : i = j
  · subst h
    by_cases h2 : i < l.length
    · simp [h2]
    · simp [h2]
  · simp [h]
theorem sv_set (S : List Sp) (i j : Nat) (p : Sp) : sv (S.set i p) j = if i = j ∧ i < S.length then p else sv S j := getD_set _ _ _ _ _
theorem noteA_W (s : Ar) (k x : Int) (wr : Bool) : (noteA s k x wr).W = s.W := by unfold noteA; split <;> rfl
theorem noteA_out (s : Ar) (k x : Int) (wr : Bool) (h : inR s.W x = false) : noteA s k x wr = s := by unfold noteA; rw [h]; rfl
theorem wrA_out (s : Ar) (x v : Int) (h : inR s.W x = false) : wrA s x v = s := by unfold wrA stW; rw [h]; rfl
theorem ldW_in {W : List Int} {x : Int} (h : inR W x = true) : ldW W x = W.getD (x.toNat - 1) 0 := by unfold ldW; rw [if_pos h]
theorem ldW_out {W : List Int} {x : Int} (h : inR W x = false) : ldW W x = 0 := by unfold ldW; rw [h]; rfl
theorem wrA_W (s : Ar) (x v : Int) : (wrA s x v).W = stW s.W x v := rfl
theorem loadA_W (s : Ar) (x : Int) : (loadA s x).W = s.W := noteA_W _ _ _ _
theorem storeA_W (s : Ar) (x v : Int) : (storeA s x v).W = stW s.W x v := by unfold storeA; rw [wrA_W, noteA_W]
theorem swapA_W (s : Ar) (x v : Int) : (swapA s x v).W = stW s.W x v := by unfold swapA; rw [wrA_W, noteA_W]
theorem casA_W (s : Ar) (x o v : Int) : (casA s x o v).W = if casB s x o then stW s.W x v else s.W := by unfold casA; split <;> rename_i h <;> simp only [wrA_W, noteA_W]
theorem addA_W (s : Ar) (x d : Int) : (addA s x d).W = stW s.W x (IntKind.i64.wrap (ldW s.W x + d)) := by unfold addA; rw [wrA_W, noteA_W]
theorem noteA_ops (s : Ar) (k x : Int) (wr : Bool) : (noteA s k x wr).ops ≤ s.ops + 1 := by unfold noteA; split <;> simp
theorem wrA_ops (s : Ar) (x v : Int) : (wrA s x v).ops = s.ops := rfl
theorem loadA_ops (s : Ar) (x : Int) : (loadA s x).ops ≤ s.ops + 1 := noteA_ops _ _ _ _
theorem storeA_ops (s : Ar) (x v : Int) : (storeA s x v).ops ≤ s.ops + 1 := noteA_ops _ _ _ _
theorem swapA_ops (s : Ar) (x v : Int) : (swapA s x v).ops ≤ s.ops + 1 := noteA_ops _ _ _ _
theorem addA_ops (s : Ar) (x d : Int) : (addA s x d).ops ≤ s.ops + 1 := noteA_ops _ _ _ _
theorem casA_ops (s : Ar) (x o v : Int) : (casA s x o v).ops ≤ s.ops + 1 := by unfold casA; split <;> exact noteA_ops _ _ _ _
end Go.Proofs.YtkdaiomjbkpedaaGreat
end
section
/- Layer 1: the arena as plain data, how it lies in memory, and what its small functions do. -/
namespace Go.Proofs.YtkdaiomjbkpedaaGreat
open Go.RowKit

def arCells (g : Nat) (s : Ar) : Array Value := #[.slice (some ⟨g, 0, none⟩) s.room s.room, .int .i64 s.W.length, .int .i64 s.ops, .int .i64 s.k, .int .i64 s.at_, .bool s.wr]
def wdL (s : Ar) : List Value := (s.W ++ List.replicate (s.room - s.W.length) 0).map (Value.int .i64)
structure ArIs (w : World) (a g : Nat) (s : Ar) : Prop where
  blk : Blk w a 79 (arCells g s)
  wds : Blk w g 116 (wdL s).toArray
  ne : a ≠ g
  le : s.W.length ≤ s.room
  room : s.room ≤ 4096
  ops : s.ops ≤ 1000000000000
theorem ArIs.turns {w w' : World} {a g : Nat} {s : Ar} {S : List Nat} (h : ArIs w a g s) (k : Turns S w w') (ha : a ∉ S) (hg : g ∉ S) : ArIs w' a g s :=
  ⟨k.blk h.blk ha, k.blk h.wds hg, h.ne, h.le, h.room, h.ops⟩
theorem ArIs.word {w : World} {a g : Nat} {s : Ar} (h : ArIs w a g s) {i : Nat} (hi : i < s.W.length) : w.cell? ⟨g, i, none⟩ = some (.int .i64 (s.W.getD i 0)) ∧ w.frozen? ⟨g, i, none⟩ = false := by
  refine ⟨?_, h.wds.free i⟩
  rw [h.wds.cell i]
  simp [wdL, List.getElem?_append, hi]
theorem wdL_set (s : Ar) {i : Nat} (hi : i < s.W.length) (v : Int) : (wdL s).toArray.setIfInBounds i (.int .i64 v) = (wdL { s with W := s.W.set i v }).toArray := by
  unfold wdL
  simp only [List.setIfInBounds_toArray, List.length_set]
  congr 1
  rw [← List.map_set, List.set_append_left _ _ hi]
section
variable {w : World} {a g : Nat} {s : Ar}
theorem ArIs.c0 (h : ArIs w a g s) : w.cell? ⟨a, 0, none⟩ = some (.slice (some ⟨g, 0, none⟩) s.room s.room) := h.blk.cell 0
theorem ArIs.c1 (h : ArIs w a g s) : w.cell? ⟨a, 1, none⟩ = some (.int .i64 s.W.length) := h.blk.cell 1
theorem ArIs.c2 (h : ArIs w a g s) : w.cell? ⟨a, 2, none⟩ = some (.int .i64 s.ops) := h.blk.cell 2
theorem ArIs.c3 (h : ArIs w a g s) : w.cell? ⟨a, 3, none⟩ = some (.int .i64 s.k) := h.blk.cell 3
theorem ArIs.c4 (h : ArIs w a g s) : w.cell? ⟨a, 4, none⟩ = some (.int .i64 s.at_) := h.blk.cell 4
theorem ArIs.c5 (h : ArIs w a g s) : w.cell? ⟨a, 5, none⟩ = some (.bool s.wr) := h.blk.cell 5
end

theorem len_any {w : World} {a g : Nat} {s : Ar} (h : ArIs w a g s) :
    Calls Tryz.prog 82 #[.pointer (some ⟨a, 0, none⟩)] w fun e w' => e = .returned (.int .i64 s.W.length) ∧ w = w' := by
  have c1 := h.c1
  clear h
  go_enter Tryz.func82, Tryz.ntmps82
  go_wp2
  go_ret
  exact ⟨rfl, rfl⟩
theorem aops_any {w : World} {a g : Nat} {s : Ar} (h : ArIs w a g s) :
    Calls Tryz.prog 17 #[.pointer (some ⟨a, 0, none⟩)] w fun e w' => e = .returned (.int .i64 s.ops) ∧ w = w' := by
  have c1 := h.c2
  clear h
  go_enter Tryz.func17, Tryz.ntmps17
  go_wp2
  go_ret
  exact ⟨rfl, rfl⟩
theorem word_in {w : World} {a g : Nat} {s : Ar} (h : ArIs w a g s) (x : Int) (hx : inR s.W x = true) :
    Calls Tryz.prog 125 #[.pointer (some ⟨a, 0, none⟩), .int .i64 x] w fun e w' => e = .returned (.pointer (some ⟨g, x.toNat - 1, none⟩)) ∧ w = w' := by
  have c0 := h.c0
  have H := Lib.hid h
  have hl := h.le
  have hr := h.room
  obtain ⟨h1, h2⟩ := inR_true.1 hx
  obtain ⟨n, rfl⟩ : ∃ n : Nat, x = ((n + 1 : Nat) : Int) := ⟨x.toNat - 1, by omega⟩
  have e1 : ((n + 1 : Nat) : Int).toNat - 1 = n := by omega
  rw [e1]
  have t1 : ¬ ((n + 1 : Nat) : Int) < 1 := by omega
  have t2 : ¬ (s.W.length : Int) < ((n + 1 : Nat) : Int) := by omega
  have t3 : (n : Int) < s.room := by omega
  clear h hx h1 h2 e1
  go_enter Tryz.func125, Tryz.ntmps125
  go_wp2_with (go_at_call 82; refine (len_any H.out).mono ?_; rintro e w' ⟨rfl, rfl⟩)
  go_ret
  exact ⟨by simp, rfl⟩
theorem word_out {w : World} {a g : Nat} {s : Ar} (h : ArIs w a g s) (x : Int) (hx : inR s.W x = false) :
    Calls Tryz.prog 125 #[.pointer (some ⟨a, 0, none⟩), .int .i64 x] w fun e w' => e = .returned (.pointer none) ∧ w = w' := by
  have H := Lib.hid h
  have hx' := inR_false.1 hx
  clear h hx
  by_cases h1 : x < 1
  · go_enter Tryz.func125, Tryz.ntmps125
    go_wp2_with (go_at_call 82; refine (len_any H.out).mono ?_; rintro e w' ⟨rfl, rfl⟩)
    go_ret
    exact ⟨rfl, rfl⟩
  · have t2 : (s.W.length : Int) < x := by omega
    clear hx'
    go_enter Tryz.func125, Tryz.ntmps125
    go_wp2_with (go_at_call 82; refine (len_any H.out).mono ?_; rintro e w' ⟨rfl, rfl⟩)
    go_ret
    exact ⟨rfl, rfl⟩
theorem note_any {w : World} {a g : Nat} {s : Ar} (h : ArIs w a g s) (k x : Int) (wr : Bool) (hx : inR s.W x = true) (ho : s.ops + 1 ≤ 1000000000000) :
    Calls Tryz.prog 126 #[.pointer (some ⟨a, 0, none⟩), .int .i64 k, .int .i64 x, .bool wr] w fun e w' => e = .returned (.tuple #[]) ∧ ArIs w' a g (noteA s k x wr) ∧ Turns [a] w w' := by
  have c2 := h.c2
  have c3 := h.c3
  have c4 := h.c4
  have c5 := h.c5
  have f2 := h.blk.free 2
  have f3 := h.blk.free 3
  have f4 := h.blk.free 4
  have f5 := h.blk.free 5
  have hl := h.blk.lt
  have H := Lib.hid h
  have HX := Lib.hid hx
  clear h hx
  go_enter Tryz.func126, Tryz.ntmps126
  go_wp2
  go_end0
  refine ⟨rfl, ?_, ?_⟩
  · have hb := (((H.out.blk.set_ 2 (.int .i64 (s.ops + 1))).set_ 3 (.int .i64 k)).set_ 4 (.int .i64 x)).set_ 5 (.bool wr)
    have hw := (((H.out.wds.far (p := ⟨a, 2, none⟩) H.out.ne.symm (.int .i64 (s.ops + 1))).far (p := ⟨a, 3, none⟩) H.out.ne.symm (.int .i64 k)).far (p := ⟨a, 4, none⟩) H.out.ne.symm (.int .i64 x)).far (p := ⟨a, 5, none⟩) H.out.ne.symm (.bool wr)
    have e : noteA s k x wr = { s with ops := s.ops + 1, k := k, at_ := x, wr := wr } := by unfold noteA; rw [if_pos HX.out]
    rw [e]
    exact ⟨hb, hw, H.out.ne, H.out.le, H.out.room, ho⟩
  · exact ((((Turns.refl _ _).setCell (.inl (by simp)) _).setCell (.inl (by simp)) _).setCell (.inl (by simp)) _).setCell (.inl (by simp)) _
end Go.Proofs.YtkdaiomjbkpedaaGreat
end
section
/- Layer 1: what the arena's ops do. -/
namespace Go.Proofs.YtkdaiomjbkpedaaGreat
open Go.RowKit

theorem run_call_swap {P : Program} {f : FuncId} {fn : Func} (hf : P.funcs[f]? = some fn) (hname : (fn.name == "runtime.NumGoroutine") = false) (hb : fn.body.isNone = true) (hn : Extern.findNext fn = none) (k : IntKind)
    (he : Extern.find fn = some (Extern.Atomic.swapT (.int k))) {a : Addr} {x y : Int} {w : World} (hc : w.cell? a = some (.int k x)) (hz : w.frozen? a = false) :
    (callFunc f #[.pointer (some a), .int k y]).run P w = .ok (.value (.int k x)) (w.setCell a (.int k y)) := by
  rw [run_callFunc_extern hf hname hb hn he]
  change (Sem.run P (do
    let a' ← asAddr (.pointer (some a))
    let old ← Extern.Atomic.read (.int k) a'
    store a' (.int k y) .atomic
    pure old) w).andThen _ = _
  simp [Extern.Atomic.read, asAddr, hc, hz, run_store P w a (.int k y) .atomic rfl, Result.andThen]

theorem aload (w : World) (p : Addr) (x : Int) (hc : w.cell? p = some (.int .i64 x)) (hp : p.spot = none) :
    Calls Tryz.prog 83 #[.pointer (some p)] w fun e w' => e = .returned (.int .i64 x) ∧ w = w' := by
  obtain ⟨b, o, sp⟩ := p
  obtain rfl : sp = none := hp
  have hl := run_call_load (P := Tryz.prog) Tryz.func121 (by kernel_rfl) (by kernel_rfl) (by kernel_rfl) .i64 (by kernel_rfl) hc
  clear hc
  go_enter Tryz.func83, Tryz.ntmps83
  go_wp2
  go_ret
  exact ⟨rfl, rfl⟩
theorem aswap (w : World) (b o : Nat) (x y : Int) (hc : w.cell? ⟨b, o, none⟩ = some (.int .i64 x)) (hz : w.frozen? ⟨b, o, none⟩ = false) :
    Calls Tryz.prog 128 #[.pointer (some ⟨b, o, none⟩), .int .i64 y] w fun e w' => e = .returned (.int .i64 x) ∧ w' = w.setCell ⟨b, o, none⟩ (.int .i64 y) := by
  have hl := run_call_swap (P := Tryz.prog) Tryz.func151 (by kernel_rfl) (by kernel_rfl) (by kernel_rfl) .i64 (by kernel_rfl) (y := y) hc hz
  go_enter Tryz.func128, Tryz.ntmps128
  go_wp2
  go_ret
  exact ⟨rfl, rfl⟩
theorem ArIs.put {w : World} {a g : Nat} {s : Ar} (h : ArIs w a g s) {x : Int} (hx : inR s.W x = true) (v : Int) :
    ArIs (w.setCell ⟨g, x.toNat - 1, none⟩ (.int .i64 v)) a g (wrA s x v) ∧ Turns [a, g] w (w.setCell ⟨g, x.toNat - 1, none⟩ (.int .i64 v)) := by
  have h12 := inR_true.1 hx
  refine ⟨⟨?_, ?_, h.ne, ?_, h.room, h.ops⟩, (Turns.refl _ _).setCell (.inl (by simp)) _⟩
  · have := h.blk.far (p := ⟨g, x.toNat - 1, none⟩) h.ne (.int .i64 v)
    have e : arCells g (wrA s x v) = arCells g s := by unfold arCells wrA; rw [stW_len]
    rw [e]; exact this
  · have := h.wds.set_ (x.toNat - 1) (.int .i64 v)
    rw [wdL_set s (by omega)] at this
    have e : wrA s x v = { s with W := s.W.set (x.toNat - 1) v } := by unfold wrA stW; rw [if_pos hx]
    rw [e]; exact this
  · show (stW s.W x v).length ≤ _
    rw [stW_len]; exact h.le
theorem turns_ag {a g : Nat} {w w' : World} (h : Turns [a] w w') : Turns [a, g] w w' := h.mono (by simp)
def OpDone (w : World) (a g : Nat) (s' : Ar) (r : Value) (e : Ending) (w' : World) : Prop := e = .returned r ∧ ArIs w' a g s' ∧ Turns [a, g] w w'

theorem load_any {w : World} {a g : Nat} {s : Ar} (h : ArIs w a g s) (x : Int) (ho : s.ops + 1 ≤ 1000000000000) :
    Calls Tryz.prog 94 #[.pointer (some ⟨a, 0, none⟩), .int .i64 x] w (OpDone w a g (loadA s x) (.int .i64 (ldW s.W x))) := by
  have H := Lib.hid h
  cases hx : inR s.W x
  · have e : OpDone w a g (loadA s x) (.int .i64 (ldW s.W x)) (.returned (.int .i64 0)) w := ⟨by rw [ldW_out hx], by unfold loadA; rw [noteA_out s _ _ _ hx]; exact h, Turns.refl _ _⟩
    have HX := Lib.hid hx
    clear h hx
    go_enter Tryz.func94, Tryz.ntmps94
    go_wp2_with fail
    refine (word_out H.out x HX.out).mono ?_
    rintro en w1 ⟨rfl, rfl⟩
    go_wp2
    go_ret
    exact e
  · have HX := Lib.hid hx
    have HE := Lib.hid (ldW_in hx)
    have h12 := inR_true.1 hx
    have hil : x.toNat - 1 < s.W.length := by omega
    clear h hx
    go_enter Tryz.func94, Tryz.ntmps94
    go_wp2_with fail
    refine (word_in H.out x HX.out).mono ?_
    rintro en w1 ⟨rfl, rfl⟩
    go_wp2_with fail
    refine (note_any H.out 1 x false HX.out ho).mono ?_
    rintro en w1 ⟨rfl, h1, t1⟩
    have hc := (h1.word (i := x.toNat - 1) (by rw [noteA_W]; exact hil)).1
    rw [noteA_W] at hc
    have H1 := Lib.hid (And.intro h1 t1)
    clear h1 t1
    go_wp2_with fail
    refine (aload _ _ _ hc rfl).mono ?_
    rintro en w2 ⟨rfl, rfl⟩
    clear hc
    rw [← HE.out]
    obtain ⟨r, hr⟩ : ∃ r, r = ldW s.W x := ⟨_, rfl⟩
    rw [← hr]
    have HR := Lib.hid hr
    clear hr
    go_wp2
    go_ret
    exact ⟨by rw [HR.out]; rfl, H1.out.1, turns_ag H1.out.2⟩
theorem swap_any {w : World} {a g : Nat} {s : Ar} (h : ArIs w a g s) (x v : Int) (ho : s.ops + 1 ≤ 1000000000000) :
    Calls Tryz.prog 92 #[.pointer (some ⟨a, 0, none⟩), .int .i64 x, .int .i64 v] w (OpDone w a g (swapA s x v) (.int .i64 (ldW s.W x))) := by
  have H := Lib.hid h
  cases hx : inR s.W x
  · have e : OpDone w a g (swapA s x v) (.int .i64 (ldW s.W x)) (.returned (.int .i64 0)) w := ⟨by rw [ldW_out hx], by unfold swapA; rw [noteA_out s _ _ _ hx, wrA_out s _ _ hx]; exact h, Turns.refl _ _⟩
    have HX := Lib.hid hx
    clear h hx
    go_enter Tryz.func92, Tryz.ntmps92
    go_wp2_with fail
    refine (word_out H.out x HX.out).mono ?_
    rintro en w1 ⟨rfl, rfl⟩
    go_wp2
    go_ret
    exact e
  · have HX := Lib.hid hx
    have HE := Lib.hid (ldW_in hx)
    have h12 := inR_true.1 hx
    have hil : x.toNat - 1 < s.W.length := by omega
    clear h hx
    go_enter Tryz.func92, Tryz.ntmps92
    go_wp2_with fail
    refine (word_in H.out x HX.out).mono ?_
    rintro en w1 ⟨rfl, rfl⟩
    go_wp2_with fail
    refine (note_any H.out 3 x true HX.out ho).mono ?_
    rintro en w1 ⟨rfl, h1, t1⟩
    have hc := h1.word (i := x.toNat - 1) (by rw [noteA_W]; exact hil)
    rw [noteA_W] at hc
    have hp := h1.put (x := x) (by rw [noteA_W]; exact HX.out) v
    have H1 := Lib.hid (And.intro hp t1)
    have HC := Lib.hid hc
    clear h1 t1 hp hc
    go_wp2_with fail
    refine (aswap _ _ _ _ _ HC.out.1 HC.out.2).mono ?_
    rintro en w2 ⟨rfl, rfl⟩
    rw [← HE.out]
    obtain ⟨r, hr⟩ : ∃ r, r = ldW s.W x := ⟨_, rfl⟩
    rw [← hr]
    have HR := Lib.hid hr
    clear hr
    go_wp2
    go_ret
    exact ⟨by rw [HR.out]; rfl, H1.out.1.1, (turns_ag H1.out.2).trans H1.out.1.2⟩
end Go.Proofs.YtkdaiomjbkpedaaGreat
end
section
/- Layer 1: a new arena, and taking words. -/
namespace Go.Proofs.YtkdaiomjbkpedaaGreat
open Go.RowKit

theorem Tryz.infoAt : (Tryz.prog.info? 116).map (fun i => (i.zero, i.size, i.bytes)) = some (some (.agg #[.int .i64 0]), 1, 8) := by kernel_rfl
theorem made_const1 (u : Value) (n : Nat) : (madeCells #[u] n).toList = List.replicate n u := by
  unfold madeCells
  rw [Array.toList_map, Array.toList_range]
  refine List.ext_getElem? fun i => ?_
  rw [List.getElem?_map, List.getElem?_replicate]
  by_cases h : i < n
  · rw [List.getElem?_range h, if_pos h]; simp [Nat.mod_one]
  · rw [if_neg h]; simp; omega
theorem own_blk {w : World} {base : Nat} {e : TypeId} {sz g n : Nat} {xs : List Value} (h : w.ownsRow base e sz (.slice (some ⟨g, 0, none⟩) n n) n xs) : Blk w g e xs.toArray := by
  rcases h.2 with ⟨h', _⟩ | ⟨g', cap', cur, h', hb, hg, hnc, hcm, hcs, ht⟩
  · simp at h'
  · simp only [Value.slice.injEq, Option.some.injEq, Addr.mk.injEq, and_true, true_and] at h'
    obtain ⟨rfl, rfl⟩ := h'
    have e1 : cur = xs.toArray := by
      rw [← ht]
      apply Array.ext'
      rw [List.take_of_length_le (by rw [Array.length_toList, hcs]; exact Nat.le_refl _)]
    unfold Blk
    rw [hg, e1]
def clampA (room : Int) : Nat := if room < 0 then 0 else if 4096 < room then 4096 else room.toNat
def newAr (room : Int) : Ar := ⟨[], clampA room, 0, 0, 0, false⟩
def NewA (w : World) (room : Int) (e : Ending) (w' : World) : Prop := ∃ a g, e = .returned (.pointer (some ⟨a, 0, none⟩)) ∧ ArIs w' a g (newAr room) ∧ w.heap.size ≤ a ∧ w.heap.size ≤ g ∧ Below w.heap.size w w'
set_option maxRecDepth 100000 in
set_option maxHeartbeats 1000000 in
theorem newA_any (w : World) (room : Int) : Calls Tryz.prog 37 #[.int .i64 room] w (NewA w room) := by
  obtain ⟨i0, hi, hz0, hz1, hz2⟩ := info_parts Tryz.infoAt
  obtain ⟨n, hn⟩ : ∃ n, n = clampA room := ⟨_, rfl⟩
  have hc : n ≤ 4096 := by rw [hn]; unfold clampA; split <;> (try split) <;> omega
  have HN := Lib.hid hn
  have key : ∀ (w1 : World), w1.ownsRow w.heap.size 116 1 (.slice (some ⟨w.heap.size, 0, none⟩) n n) n (madeCells #[.int .i64 0] n).toList → w.grownBy w1 none →
      ArIs (w1.alloc (.cells #[.slice (some ⟨w.heap.size, 0, none⟩) n n, .int .i64 0, .int .i64 0, .int .i64 0, .int .i64 0, .bool false] 79)) w1.heap.size w.heap.size (newAr room) ∧ w.heap.size ≤ w1.heap.size ∧ Below w.heap.size w (w1.alloc (.cells #[.slice (some ⟨w.heap.size, 0, none⟩) n n, .int .i64 0, .int .i64 0, .int .i64 0, .int .i64 0, .bool false] 79)) := by
    intro w1 hown hg
    rw [made_const1] at hown
    have hb := own_blk hown
    have hlt := hb.lt
    refine ⟨⟨?_, ?_, by omega, by simp [newAr], by simp [newAr]; omega, by simp [newAr]⟩, by omega, ((Below.refl w.heap.size w).grown hg (Nat.le_refl _) (fun j hj => by cases hj)).alloc (by omega) _⟩
    · have := Blk.new w1 79 (arCells w.heap.size (newAr room))
      unfold arCells newAr at this ⊢
      rw [← HN.out] at this ⊢
      simpa using this
    · have e : (wdL (newAr room)).toArray = (List.replicate n (Value.int .i64 0)).toArray := by unfold wdL newAr; simp [← HN.out]
      rw [e]
      exact hb.alloc _
  have KEY := Lib.hid key
  clear key
  rcases (show 4096 < room ∨ (room ≤ 4096 ∧ 0 < room) ∨ room ≤ 0 by omega) with h | ⟨h, h'⟩ | h
  · have E : Hid ((4096 : Int) = (n : Int)) := Lib.hid (by rw [hn]; unfold clampA; rw [if_neg (by omega), if_pos h]; rfl)
    clear hn
    go_enter Tryz.func37, Tryz.ntmps37
    go_wp2_with (refine wpList_make_full _ rfl (.tmp 5) (.tmp 5) 75 rfl w.heap.size 116 i0 (.agg #[.int .i64 0]) 1 Tryz.underlying75 hi hz0 hz1 .i64 .i64 4096 4096 n rfl rfl E.out E.out ?b2 ?b3 (Nat.le_refl _) ?_)
    case b2 => rw [hz2]; omega
    case b3 => unfold maxLen; omega
    intro w1 hown hg
    obtain ⟨k1, k2, k3⟩ := KEY.out w1 hown hg
    clear hown hg
    go_wp2
    go_ret
    exact ⟨_, _, rfl, k1, k2, Nat.le_refl _, k3⟩
  · have E : Hid (room = (n : Int)) := Lib.hid (by rw [hn]; unfold clampA; rw [if_neg (by omega), if_neg (by omega)]; omega)
    clear hn
    go_enter Tryz.func37, Tryz.ntmps37
    go_wp2_with (refine wpList_make_full _ rfl (.tmp 5) (.tmp 5) 75 rfl w.heap.size 116 i0 (.agg #[.int .i64 0]) 1 Tryz.underlying75 hi hz0 hz1 .i64 .i64 room room n rfl rfl E.out E.out ?b2 ?b3 (Nat.le_refl _) ?_)
    case b2 => rw [hz2]; omega
    case b3 => unfold maxLen; omega
    intro w1 hown hg
    obtain ⟨k1, k2, k3⟩ := KEY.out w1 hown hg
    clear hown hg
    go_wp2
    go_ret
    exact ⟨_, _, rfl, k1, k2, Nat.le_refl _, k3⟩
  · have E : Hid ((0 : Int) = (n : Int)) := Lib.hid (by rw [hn]; unfold clampA; split <;> (try split) <;> omega)
    have h4 : room ≤ 4096 := by omega
    clear hn
    go_enter Tryz.func37, Tryz.ntmps37
    go_wp2_with (refine wpList_make_full _ rfl (.tmp 5) (.tmp 5) 75 rfl w.heap.size 116 i0 (.agg #[.int .i64 0]) 1 Tryz.underlying75 hi hz0 hz1 .i64 .i64 0 0 n rfl rfl E.out E.out ?b2 ?b3 (Nat.le_refl _) ?_)
    case b2 => rw [hz2]; omega
    case b3 => unfold maxLen; omega
    intro w1 hown hg
    obtain ⟨k1, k2, k3⟩ := KEY.out w1 hown hg
    clear hown hg
    go_wp2
    go_ret
    exact ⟨_, _, rfl, k1, k2, Nat.le_refl _, k3⟩

def takeA (s : Ar) (n : Int) : Ar × Int × Int :=
  if n < 0 then (s, (0 : Int), (1 : Int)) else if (s.room : Int) - s.W.length < n then (s, (0 : Int), (3 : Int)) else ({ s with W := s.W ++ List.replicate n.toNat 0 }, (s.W.length : Int) + 1, (0 : Int))
def TakeOk (w : World) (a g : Nat) (x : Ar × Int × Int) (e : Ending) (w' : World) : Prop := e = .returned (.tuple #[.int .i64 x.2.1, .int .i64 x.2.2]) ∧ ArIs w' a g x.1 ∧ Turns [a] w w'
set_option maxRecDepth 100000 in
set_option maxHeartbeats 1000000 in
theorem take_any {w : World} {a g : Nat} {s : Ar} (h : ArIs w a g s) (n : Int) :
    Calls Tryz.prog 71 #[.pointer (some ⟨a, 0, none⟩), .int .i64 n] w (TakeOk w a g (takeA s n)) := by
  have H := Lib.hid h
  have c0 := h.c0
  have c1 := h.c1
  have f1 := h.blk.free 1
  have hle := h.le
  have hro := h.room
  have hlt := h.blk.lt
  clear h
  by_cases h0 : n < 0
  · have e : takeA s n = (s, (0 : Int), (1 : Int)) := by unfold takeA; rw [if_pos h0]
    have HE := Lib.hid e
    clear e
    go_enter Tryz.func71, Tryz.ntmps71
    go_wp2
    go_ret2
    rw [HE.out]
    exact ⟨rfl, H.out, Turns.refl _ _⟩
  · by_cases h1 : (s.room : Int) - s.W.length < n
    · have e : takeA s n = (s, (0 : Int), (3 : Int)) := by unfold takeA; rw [if_neg h0, if_pos h1]
      have HE := Lib.hid e
      have x1 : IntKind.i64.wrap ((s.room : Int) - s.W.length) = (s.room : Int) - s.W.length := IntWalk.i64_in _ (by omega)
      clear e
      go_enter Tryz.func71, Tryz.ntmps71
      go_wp2
      go_quiet (fail)
      go_wp2
      go_ret2
      rw [HE.out]
      exact ⟨rfl, H.out.turns (S := []) ((Turns.refl _ _).drewN _) (by simp) (by simp), (Turns.refl _ _).drewN _⟩
    · have e : takeA s n = ({ s with W := s.W ++ List.replicate n.toNat 0 }, (s.W.length : Int) + 1, (0 : Int)) := by unfold takeA; rw [if_neg h0, if_neg h1]
      have HE := Lib.hid e
      have x1 : IntKind.i64.wrap ((s.room : Int) - s.W.length) = (s.room : Int) - s.W.length := IntWalk.i64_in _ (by omega)
      have h2 : n ≤ 4096 := by omega
      clear e
      go_enter Tryz.func71, Tryz.ntmps71
      go_wp2
      go_quiet (fail)
      clear x1
      go_wp2
      go_ret2
      rw [HE.out]
      obtain ⟨m, rfl⟩ := Int.eq_ofNat_of_zero_le (show 0 ≤ n by omega)
      have hb := (H.out.blk.drewN nq).set_ 1 (.int .i64 (s.W.length + m))
      have hw := (H.out.wds.drewN nq).far (p := ⟨a, 1, none⟩) H.out.ne.symm (.int .i64 (s.W.length + m))
      refine ⟨rfl, ⟨?_, ?_, H.out.ne, by simp; omega, hro, H.out.ops⟩, ((Turns.refl _ _).drewN _).setCell (.inl (by simp)) _⟩
      · have e : arCells g ({ s with W := s.W ++ List.replicate ((m : Int).toNat) 0 }) = (arCells g s).setIfInBounds 1 (.int .i64 (s.W.length + m)) := by
          unfold arCells; simp
        rw [e]; exact hb
      · have e : wdL { s with W := s.W ++ List.replicate ((m : Int).toNat) 0 } = wdL s := by
          unfold wdL
          congr 1
          rw [List.append_assoc, List.append_cancel_left_eq, List.replicate_append_replicate]
          congr 1
          simp; omega
        rw [e]; exact hw
end Go.Proofs.YtkdaiomjbkpedaaGreat
end
section
/- Layer 1: Add. -/
namespace Go.Proofs.YtkdaiomjbkpedaaGreat
open Go.RowKit

theorem aadd (w : World) (b o : Nat) (x y : Int) (hc : w.cell? ⟨b, o, none⟩ = some (.int .i64 x)) (hz : w.frozen? ⟨b, o, none⟩ = false) :
    Calls Tryz.prog 132 #[.pointer (some ⟨b, o, none⟩), .int .i64 y] w fun e w' => e = .returned (.int .i64 (IntKind.i64.wrap (x + y))) ∧ w' = w.setCell ⟨b, o, none⟩ (.int .i64 (IntKind.i64.wrap (x + y))) := by
  obtain ⟨s, hs⟩ : ∃ s, s = IntKind.i64.wrap (x + y) := ⟨_, rfl⟩
  rw [← hs]
  have hl := run_call_add (P := Tryz.prog) Tryz.func154 (by kernel_rfl) (by kernel_rfl) (by kernel_rfl) .i64 (by kernel_rfl) (y := y) (s := s) hc hz (by rw [hs]; rfl)
  clear hs
  go_enter Tryz.func132, Tryz.ntmps132
  go_wp2
  go_ret
  exact ⟨rfl, rfl⟩
theorem add_any {w : World} {a g : Nat} {s : Ar} (h : ArIs w a g s) (x d : Int) (ho : s.ops + 1 ≤ 1000000000000) :
    Calls Tryz.prog 102 #[.pointer (some ⟨a, 0, none⟩), .int .i64 x, .int .i64 d] w (OpDone w a g (addA s x d) (.int .i64 (if inR s.W x then IntKind.i64.wrap (ldW s.W x + d) else 0))) := by
  have H := Lib.hid h
  cases hx : inR s.W x
  · have e : OpDone w a g (addA s x d) (.int .i64 (if false = true then IntKind.i64.wrap (ldW s.W x + d) else 0)) (.returned (.int .i64 0)) w := ⟨rfl, by unfold addA; rw [noteA_out s _ _ _ hx, wrA_out s _ _ hx]; exact h, Turns.refl _ _⟩
    have HX := Lib.hid hx
    clear h hx
    go_enter Tryz.func102, Tryz.ntmps102
    go_wp2_with fail
    refine (word_out H.out x HX.out).mono ?_
    rintro en w1 ⟨rfl, rfl⟩
    go_wp2
    go_ret
    exact e
  · have HX := Lib.hid hx
    have HE := Lib.hid (ldW_in hx)
    have h12 := inR_true.1 hx
    have hil : x.toNat - 1 < s.W.length := by omega
    clear h hx
    go_enter Tryz.func102, Tryz.ntmps102
    go_wp2_with fail
    refine (word_in H.out x HX.out).mono ?_
    rintro en w1 ⟨rfl, rfl⟩
    go_wp2_with fail
    refine (note_any H.out 5 x true HX.out ho).mono ?_
    rintro en w1 ⟨rfl, h1, t1⟩
    have hc := h1.word (i := x.toNat - 1) (by rw [noteA_W]; exact hil)
    rw [noteA_W, ← HE.out] at hc
    have hp := h1.put (x := x) (by rw [noteA_W]; exact HX.out) (IntKind.i64.wrap (ldW s.W x + d))
    have H1 := Lib.hid (And.intro hp t1)
    have HC := Lib.hid hc
    clear h1 t1 hp hc
    go_wp2_with fail
    refine (aadd _ _ _ _ _ HC.out.1 HC.out.2).mono ?_
    rintro en w2 ⟨rfl, rfl⟩
    obtain ⟨r, hr⟩ : ∃ r, r = IntKind.i64.wrap (ldW s.W x + d) := ⟨_, rfl⟩
    have hr2 : -9223372036854775808 ≤ r ∧ r ≤ 9223372036854775807 := by rw [hr, IntKind.wrap_i64]; omega
    obtain ⟨hr3, hr4⟩ := hr2
    rw [← hr]
    have HR := Lib.hid hr
    clear hr
    go_wp2
    go_ret
    exact ⟨by rw [HR.out]; rfl, by rw [HR.out]; exact H1.out.1.1, by rw [HR.out]; exact (turns_ag H1.out.2).trans H1.out.1.2⟩
end Go.Proofs.YtkdaiomjbkpedaaGreat
end
section
/- Layer 29 (hclh): the machine as plain data, and what always holds of it. No program in sight. -/
namespace Go.Proofs.YtkdaiomjbkpedaaGreat
open Go

def dv (D : List Int) (t : Nat) : Int := D.getD t 0
def tokH (t : Nat) (d : Int) : Int := d * 65536 + ((t : Int) + 1)
structure Hc where
  ar : Ar
  D : List Int
  S : List Sp
def isOk (n : Nat) (w : Int) : Bool := decide (0 ≤ w ∧ 1 ≤ w % 65536 ∧ w % 65536 ≤ n)
def isB (W : List Int) (f : Int) (n : Nat) (w : Int) : Bool := isOk n w && decide (w / 65536 ≤ ldW W (f + (w % 65536 - 1)))
def isA (s : Ar) (f : Int) (n : Nat) (w : Int) : Ar := if isOk n w then loadA s (f + (w % 65536 - 1)) else s
/-- a step of thread i, whose node is nu; nd nodes, n threads, a delay -/
def stepHp (nd n : Nat) (dl : Int) (h : Hc) (nu i : Nat) (p : Sp) : Ar × List Int × Sp :=
  if p.pc = 1 then (swapA h.ar (2 + (nu : Int)) (tokH i (dv h.D i + 1)), h.D,
    if ldW h.ar.W (2 + (nu : Int)) ≠ 0 then { p with a := ldW h.ar.W (2 + (nu : Int)), pc := 5 } else if 0 < dl then { p with a := ldW h.ar.W (2 + (nu : Int)), b := dl, pc := 2 } else { p with a := ldW h.ar.W (2 + (nu : Int)), b := 0, pc := 3 })
  else if p.pc = 2 then (h.ar, h.D, { p with b := p.b - 1, pc := if 0 < p.b - 1 then 2 else 3 })
  else if p.pc = 3 then (swapA h.ar (2 + (nu : Int)) 0, h.D, { p with c := ldW h.ar.W (2 + (nu : Int)), pc := 4 })
  else if p.pc = 4 then (swapA h.ar 1 p.c, h.D, { p with a := ldW h.ar.W 1, pc := if ldW h.ar.W 1 = 0 then 10 else 5 })
  else if p.pc = 5 then (isA h.ar (2 + (nd : Int)) n p.a, h.D, { p with pc := if isB h.ar.W (2 + (nd : Int)) n p.a then 10 else 5 })
  else (addA h.ar (2 + (nd : Int) + i) 1, h.D.set i (dv h.D i + 1), { p with pc := 0 })
def goesH (p : Sp) : Bool := p.pc == 1 || p.pc == 2 || p.pc == 3 || p.pc == 4 || p.pc == 5 || p.pc == 11
def stepH (nd n : Nat) (dl : Int) (node : Nat → Nat) (h : Hc) (i : Int) : Hc × Bool :=
  if okI h.S i ∧ goesH (getS h.S i) = true then
    (⟨(stepHp nd n dl h (node i.toNat) i.toNat (getS h.S i)).1, (stepHp nd n dl h (node i.toNat) i.toNat (getS h.S i)).2.1, h.S.set i.toNat (stepHp nd n dl h (node i.toNat) i.toNat (getS h.S i)).2.2⟩,
      decide ((stepHp nd n dl h (node i.toNat) i.toNat (getS h.S i)).2.2.pc = 10 ∨ (stepHp nd n dl h (node i.toNat) i.toNat (getS h.S i)).2.2.pc = 0))
  else (h, false)
def beginH (h : Hc) (i from_ to_ : Int) : Hc × Bool :=
  if okI h.S i ∧ (getS h.S i).pc = from_ then (⟨h.ar, h.D, h.S.set i.toNat { getS h.S i with pc := to_ }⟩, true) else (h, false)

/- the words -/
def tl (W : List Int) : Int := W.getD 0 0
def lc (W : List Int) (v : Nat) : Int := W.getD (1 + v) 0
def tnw (nd : Nat) (W : List Int) (i : Nat) : Int := W.getD (1 + nd + i) 0
section
variable {W : List Int} {nd n i v : Nat}
theorem getD_set_ne {α : Type} (l : List α) {i j : Nat} (a d : α) (h : i ≠ j) : (l.set i a).getD j d = l.getD j d := by rw [getD_set, if_neg (fun e => h e.1)]
theorem getD_set_eq {α : Type} (l : List α) {i : Nat} (a d : α) (h : i < l.length) : (l.set i a).getD i d = a := by rw [getD_set, if_pos ⟨rfl, h⟩]
theorem ld_at {k : Nat} (h : k < W.length) : ldW W ((k : Int) + 1) = W.getD k 0 := by
  unfold ldW inR
  rw [if_pos (decide_eq_true (by omega)), show ((k : Int) + 1).toNat - 1 = k by omega]
theorem st_at {k : Nat} (h : k < W.length) (x : Int) : stW W ((k : Int) + 1) x = W.set k x := by
  unfold stW inR
  rw [if_pos (decide_eq_true (by omega)), show ((k : Int) + 1).toNat - 1 = k by omega]
theorem ld_tl1 (hw : W.length = 1 + nd + n) : ldW W 1 = tl W := ld_at (k := 0) (by omega)
theorem ld_lc (hw : W.length = 1 + nd + n) (h : v < nd) : ldW W (2 + (v : Int)) = lc W v := by rw [show (2 + (v : Int)) = ((1 + v : Nat) : Int) + 1 by omega]; exact ld_at (by omega)
theorem ld_tw (hw : W.length = 1 + nd + n) (h : i < n) : ldW W (2 + (nd : Int) + i) = tnw nd W i := by rw [show (2 + (nd : Int) + i) = ((1 + nd + i : Nat) : Int) + 1 by omega]; exact ld_at (by omega)
theorem st_tl1 (hw : W.length = 1 + nd + n) (x : Int) : stW W 1 x = W.set 0 x := st_at (k := 0) (by omega) x
theorem st_lc (hw : W.length = 1 + nd + n) (h : v < nd) (x : Int) : stW W (2 + (v : Int)) x = W.set (1 + v) x := by rw [show (2 + (v : Int)) = ((1 + v : Nat) : Int) + 1 by omega]; exact st_at (by omega) x
theorem st_tw (hw : W.length = 1 + nd + n) (h : i < n) (x : Int) : stW W (2 + (nd : Int) + i) x = W.set (1 + nd + i) x := by rw [show (2 + (nd : Int) + i) = ((1 + nd + i : Nat) : Int) + 1 by omega]; exact st_at (by omega) x
end

/- chains -/
def Lks (P : Nat → Nat → Prop) : List Nat → Prop
  | [] => True
  | a :: l => (∀ b, l.head? = some b → P a b) ∧ Lks P l
section
variable {P P' : Nat → Nat → Prop} {l m : List Nat}
theorem Lks.append (h : Lks P l) (k : Lks P m) (hj : ∀ a b, l.getLast? = some a → m.head? = some b → P a b) : Lks P (l ++ m) := by
  induction l with
  | nil => exact k
  | cons a l ih =>
    refine ⟨fun b hb => ?_, ih h.2 fun x y hx hy => hj x y ?_ hy⟩
    · cases l with
      | nil => exact hj a b rfl (by simpa using hb)
      | cons c l => exact h.1 b (by simpa using hb)
    · cases l with
      | nil => simp at hx
      | cons c l => rw [List.getLast?_cons_cons]; exact hx
theorem Lks.mono (h : Lks P l) (hm : ∀ a b, a ∈ l → b ∈ l.tail → P a b → P' a b) : Lks P' l := by
  induction l with
  | nil => trivial
  | cons a l ih =>
    refine ⟨fun b hb => hm a b (by simp) (List.mem_of_mem_head? hb) (h.1 b hb), ih h.2 fun x y hx hy => hm x y (List.mem_cons_of_mem _ hx) (List.mem_of_mem_tail hy)⟩
theorem Lks.mem {b : Nat} (h : Lks P l) (hb : b ∈ l.tail) : ∃ a, a ∈ l ∧ P a b := by
  induction l with
  | nil => simp at hb
  | cons a l ih =>
    cases l with
    | nil => simp at hb
    | cons c l =>
      rcases List.mem_cons.1 (show b ∈ c :: l from hb) with rfl | hb'
      · exact ⟨a, by simp, h.1 b rfl⟩
      · obtain ⟨x, hx, hp⟩ := ih h.2 hb'
        exact ⟨x, List.mem_cons_of_mem _ hx, hp⟩
theorem Lks.tail (h : Lks P l) : Lks P l.tail := by
  cases l with
  | nil => exact h
  | cons a l => exact h.2
theorem mem_ht {t : Nat} (h : t ∈ l) : l.head? = some t ∨ t ∈ l.tail := by
  cases l with
  | nil => simp at h
  | cons a l =>
    rcases List.mem_cons.1 h with rfl | h
    · exact .inl rfl
    · exact .inr h
theorem head_not_tail {t : Nat} (hn : l.Nodup) (h : l.head? = some t) : t ∉ l.tail := by
  cases l with
  | nil => simp at h
  | cons a l =>
    simp at h
    subst h
    exact (List.nodup_cons.1 hn).1
theorem ne_of_head {t : Nat} (h : l.head? = some t) : l ≠ [] := by rintro rfl; simp at h
theorem mem_of_head {t : Nat} (h : l.head? = some t) : t ∈ l := List.mem_of_mem_head? h
end
def lastT (D : List Int) (l : List Nat) : Int := match l.getLast? with | some t => tokH t (dv D t + 1) | none => 0
theorem lastT_some {D : List Int} {l : List Nat} {t : Nat} (h : l.getLast? = some t) : lastT D l = tokH t (dv D t + 1) := by unfold lastT; rw [h]
theorem last_some {l : List Nat} (h : l ≠ []) : ∃ t, l.getLast? = some t ∧ t ∈ l := ⟨l.getLast h, List.getLast?_eq_some_getLast h, List.getLast_mem h⟩
theorem lastT_append {D : List Int} (l : List Nat) {m : List Nat} (h : m ≠ []) : lastT D (l ++ m) = lastT D m := by
  obtain ⟨t, ht, _⟩ := last_some h
  rw [lastT_some ht, lastT_some (t := t)]
  rw [List.getLast?_append, ht]; rfl
def Dn (n : Nat) (D : List Int) (w : Int) : Prop := ∃ (t : Nat) (d : Int), t < n ∧ 1 ≤ d ∧ d ≤ dv D t ∧ w = tokH t d
def HLk (D : List Int) (S : List Sp) (p s : Nat) : Prop := (sv S s).pc = 5 ∧ (sv S s).a = tokH p (dv D p + 1)
/-- G 0: the global row of those who were spliced; G (m + 1): the row of the master m that was not yet -/
structure HIv (nd n : Nat) (node : Nat → Nat) (W D : List Int) (S : List Sp) (G : Nat → List Nat) : Prop where
  wl : W.length = 1 + nd + n
  sl : S.length = n
  dl : n ≤ D.length
  n32 : n ≤ 32
  nn : ∀ t, t < n → node t < nd
  tw : ∀ t, t < n → tnw nd W t = dv D t
  d0 : ∀ t, 0 ≤ dv D t
  nod : ∀ k, (G k).Nodup
  dj : ∀ k k' t, t ∈ G k → t ∈ G k' → k = k'
  lt : ∀ k t, t ∈ G k → t < n
  lk : ∀ k, Lks (HLk D S) (G k)
  free : ∀ t, t < n → (∀ k, t ∉ G k) → (sv S t).pc = 0 ∨ (sv S t).pc = 1
  first : ∀ m, G (m + 1) ≠ [] → (G (m + 1)).head? = some m
  same : ∀ m t, t ∈ G (m + 1) → node t = node m
  mast : ∀ m, G (m + 1) ≠ [] → ((((sv S m).pc = 2 ∧ 0 < (sv S m).b) ∨ (sv S m).pc = 3) ∧ lc W (node m) = lastT D (G (m + 1))) ∨ ((sv S m).pc = 4 ∧ (sv S m).c = lastT D (G (m + 1)))
  one : ∀ m m', G (m + 1) ≠ [] → G (m' + 1) ≠ [] → node m = node m' → (sv S m).pc < 4 → (sv S m').pc < 4 → m = m'
  loc : ∀ v, v < nd → lc W v = 0 ∨ ∃ m, G (m + 1) ≠ [] ∧ (sv S m).pc < 4 ∧ node m = v
  front : ∀ t, (G 0).head? = some t → ((sv S t).pc = 5 ∧ Dn n D (sv S t).a) ∨ (sv S t).pc = 10 ∨ (sv S t).pc = 11
  tail : (tl W = lastT D (G 0) ∧ G 0 ≠ []) ∨ (G 0 = [] ∧ (tl W = 0 ∨ Dn n D (tl W)))
section
variable {nd n : Nat} {node : Nat → Nat} {W W' D D' : List Int} {S : List Sp} {G : Nat → List Nat} {i : Nat} {p' : Sp}
theorem tok_ne {t : Nat} {d : Int} (h : 0 ≤ d) : tokH t d ≠ 0 := by unfold tokH; omega
theorem tok_inj {t t' : Nat} {d d' : Int} (h : t < 32) (h' : t' < 32) (e : tokH t d = tokH t' d') : t = t' ∧ d = d' := by unfold tokH at e; omega
theorem Dn.ne {w : Int} (h : Dn n D w) : w ≠ 0 := by obtain ⟨t, d, _, h1, _, rfl⟩ := h; exact tok_ne (by omega)
theorem HIv.notail (h : HIv nd n node W D S G) {k t : Nat} (ht : t ∈ (G k).tail) : (sv S t).pc = 5 ∧ ∃ p, p ∈ G k ∧ (sv S t).a = tokH p (dv D p + 1) := by
  obtain ⟨p, hp, h5, ha⟩ := (h.lk k).mem ht
  exact ⟨h5, p, hp, ha⟩
theorem HIv.inG (h : HIv nd n node W D S G) {k t : Nat} (ht : t ∈ G k) : (t ∈ (G k).tail ∧ (sv S t).pc = 5) ∨ ((G k).head? = some t ∧ ((k = 0 ∧ (((sv S t).pc = 5 ∧ Dn n D (sv S t).a) ∨ (sv S t).pc = 10 ∨ (sv S t).pc = 11)) ∨ (k = t + 1 ∧ ((sv S t).pc = 2 ∨ (sv S t).pc = 3 ∨ (sv S t).pc = 4)))) := by
  rcases mem_ht ht with hh | hh
  · refine .inr ⟨hh, ?_⟩
    cases k with
    | zero => exact .inl ⟨rfl, h.front t hh⟩
    | succ m =>
      have e := h.first m (ne_of_head hh)
      rw [hh] at e
      injection e with e
      subst e
      refine .inr ⟨rfl, ?_⟩
      rcases h.mast t (ne_of_head hh) with ⟨h1 | h1, _⟩ | ⟨h1, _⟩
      · exact .inl h1.1
      · exact .inr (.inl h1)
      · exact .inr (.inr h1)
  · exact .inl ⟨hh, (h.notail hh).1⟩
theorem HIv.at01 (h : HIv nd n node W D S G) (hp : (sv S i).pc = 0 ∨ (sv S i).pc = 1) : ∀ k, i ∉ G k := fun k hk => by
  rcases h.inG hk with h1 | ⟨_, ⟨_, h1⟩ | ⟨_, h1⟩⟩ <;> omega
theorem HIv.at234 (h : HIv nd n node W D S G) (hi : i < n) (hp : (sv S i).pc = 2 ∨ (sv S i).pc = 3 ∨ (sv S i).pc = 4) : (G (i + 1)).head? = some i := by
  rcases Classical.em (∀ k, i ∉ G k) with hk | hk
  · have := h.free i hi hk; omega
  · obtain ⟨k, hk⟩ := Classical.not_forall.1 hk
    rcases h.inG (Classical.not_not.1 hk) with h1 | ⟨h0, ⟨_, h1⟩ | ⟨rfl, h1⟩⟩
    · omega
    · omega
    · exact h0
theorem HIv.atFront (h : HIv nd n node W D S G) (hi : i < n) (hp : (sv S i).pc = 10 ∨ (sv S i).pc = 11) : (G 0).head? = some i := by
  rcases Classical.em (∀ k, i ∉ G k) with hk | hk
  · have := h.free i hi hk; omega
  · obtain ⟨k, hk⟩ := Classical.not_forall.1 hk
    rcases h.inG (Classical.not_not.1 hk) with h1 | ⟨h0, ⟨rfl, h1⟩ | ⟨rfl, h1⟩⟩
    · omega
    · exact h0
    · omega
theorem HIv.at5 (h : HIv nd n node W D S G) (hi : i < n) (hp : (sv S i).pc = 5) : (∃ k p, i ∈ (G k).tail ∧ p ∈ G k ∧ (sv S i).a = tokH p (dv D p + 1)) ∨ ((G 0).head? = some i ∧ Dn n D (sv S i).a) := by
  rcases Classical.em (∀ k, i ∉ G k) with hk | hk
  · have := h.free i hi hk; omega
  · obtain ⟨k, hk⟩ := Classical.not_forall.1 hk
    rcases h.inG (Classical.not_not.1 hk) with h1 | ⟨h0, ⟨rfl, h1⟩ | ⟨rfl, h1⟩⟩
    · obtain ⟨_, p, h2, h3⟩ := h.notail h1.1
      exact .inl ⟨k, p, h1.1, h2, h3⟩
    · refine .inr ⟨h0, ?_⟩
      rcases h1 with h1 | h1 | h1
      · exact h1.2
      · omega
      · omega
    · omega
theorem sv_ne {j : Nat} (h : j ≠ i) : sv (S.set i p') j = sv S j := by rw [sv_set, if_neg (fun e => h e.1.symm)]
theorem sv_eq (h : i < S.length) : sv (S.set i p') i = p' := by rw [sv_set, if_pos ⟨rfl, h⟩]
theorem isB_tok (hw : W.length = 1 + nd + n) (hn : n ≤ 32) {t : Nat} (ht : t < n) {d : Int} (h0 : 0 ≤ d) : isB W (2 + (nd : Int)) n (tokH t d) = decide (d ≤ tnw nd W t) := by
  have e1 : tokH t d % 65536 = t + 1 := by unfold tokH; omega
  have e2 : tokH t d / 65536 = d := by unfold tokH; omega
  unfold isB isOk
  rw [e1, e2, show (2 + (nd : Int) + ((t : Int) + 1 - 1)) = 2 + (nd : Int) + t by omega, ld_tw hw ht, decide_eq_true (show 0 ≤ tokH t d ∧ 1 ≤ (t : Int) + 1 ∧ (t : Int) + 1 ≤ n by refine ⟨by unfold tokH; omega, by omega, by omega⟩)]
  rfl
/-- a step of one who is no follower; no row turns -/
theorem HIv.keep (h : HIv nd n node W D S G) (hi : i < n) (hw : W'.length = W.length) (htw : ∀ t, t < n → tnw nd W' t = tnw nd W t) (htl : tl W' = tl W) (hnt : ∀ k, i ∉ (G k).tail)
    (hfree : (∀ k, i ∉ G k) → p'.pc = 0 ∨ p'.pc = 1)
    (hmast : G (i + 1) ≠ [] → (((p'.pc = 2 ∧ 0 < p'.b) ∨ p'.pc = 3) ∧ lc W' (node i) = lastT D (G (i + 1))) ∨ (p'.pc = 4 ∧ p'.c = lastT D (G (i + 1))))
    (hmo : ∀ m, m ≠ i → G (m + 1) ≠ [] → (sv S m).pc < 4 → lc W' (node m) = lc W (node m))
    (hone : G (i + 1) ≠ [] → p'.pc < 4 → (sv S i).pc < 4)
    (hloc : ∀ v, v < nd → lc W' v = 0 ∨ (lc W' v = lc W v ∧ (v = node i → G (i + 1) ≠ [] → (sv S i).pc < 4 → p'.pc < 4)))
    (hfront : (G 0).head? = some i → (p'.pc = 5 ∧ Dn n D p'.a) ∨ p'.pc = 10 ∨ p'.pc = 11) : HIv nd n node W' D (S.set i p') G := by
  have hii := sv_eq (S := S) (i := i) (p' := p') (by rw [h.sl]; exact hi)
  refine ⟨hw.trans h.wl, by simp [h.sl], h.dl, h.n32, h.nn, fun t ht => (htw t ht).trans (h.tw t ht), h.d0, h.nod, h.dj, h.lt, fun k => ?_, fun t ht hk => ?_, h.first, h.same, fun m hm => ?_, fun m m' hm hm' he h1 h2 => ?_, fun v hv => ?_, fun t ht => ?_, by rw [htl]; exact h.tail⟩
  · refine (h.lk k).mono fun a b _ hb hab => ?_
    have : b ≠ i := fun e => hnt k (e ▸ hb)
    unfold HLk
    rw [sv_ne this]; exact hab
  · by_cases e : t = i
    · subst e; rw [hii]; exact hfree hk
    · rw [sv_ne e]; exact h.free t ht hk
  · by_cases e : m = i
    · subst e; rw [hii]; exact hmast hm
    · rw [sv_ne e]
      rcases h.mast m hm with ⟨h1, h2⟩ | h1
      · exact .inl ⟨h1, by rw [hmo m e hm (by omega)]; exact h2⟩
      · exact .inr h1
  · refine h.one m m' hm hm' he ?_ ?_
    · by_cases e : m = i
      · subst e; rw [hii] at h1; exact hone hm h1
      · rw [sv_ne e] at h1; exact h1
    · by_cases e : m' = i
      · subst e; rw [hii] at h2; exact hone hm' h2
      · rw [sv_ne e] at h2; exact h2
  · rcases hloc v hv with h1 | ⟨h1, h2⟩
    · exact .inl h1
    · rw [h1]
      rcases h.loc v hv with h3 | ⟨m, h3, h4, h5⟩
      · exact .inl h3
      · refine .inr ⟨m, h3, ?_, h5⟩
        by_cases e : m = i
        · subst e; rw [hii]; exact h2 h5.symm h3 h4
        · rw [sv_ne e]; exact h4
  · by_cases e : t = i
    · subst e; rw [hii]; exact hfront ht
    · rw [sv_ne e]; exact h.front t ht
end
end Go.Proofs.YtkdaiomjbkpedaaGreat
end
section
/- Regions whose loads are held: the held facts may grow on the way. -/
namespace Go.Proofs.YtkdaiomjbkpedaaGreat
open Go.RowKit
theorem wpAnyH_more {P : Program} {md : Region.Mode} {ops : Array Oper} {Q : Exit → Act → World → Prop} {S S' : World → Prop} (hSS : ∀ w, S' w → S w) : ∀ (fuel : Nat) (listed : Array Bool) (a : Act) (w : World), wpAnyH P md ops Q S' fuel listed a w → wpAnyH P md ops Q S fuel listed a w
  | 0, _, _, _, h => h
  | fuel + 1, _, _, _, h => ⟨h.1, fun i hi => wpOp_mono (fun a' w' h' => ⟨hSS _ h'.1, wpAnyH_more hSS fuel _ a' w' h'.2⟩) (h.2 i hi)⟩
theorem shut_more {P : Program} {md : Region.Mode} {ops : Array Oper} {Q : Exit → Act → World → Prop} {S S' : World → Prop} {K : Act → World → Prop} {fuel : Nat} {listed : Array Bool} (hSS : ∀ w, S' w → S w)
    (hK : Shut (∀ a w, S w → (S w → wpAnyH P md ops Q S fuel listed a w) → K a w)) :
    (Shut (∀ a w, S w → (S w → wpAnyH P md ops Q S fuel listed a w) → K a w)) = Shut (∀ a w, S' w → (S' w → wpAnyH P md ops Q S' fuel listed a w) → K a w) :=
  propext ⟨fun _ => fun a w hS' hW => hK.out a w (hSS w hS') (fun _ => wpAnyH_more hSS fuel listed a w (hW hS')), fun _ => hK⟩
end Go.Proofs.YtkdaiomjbkpedaaGreat
end
