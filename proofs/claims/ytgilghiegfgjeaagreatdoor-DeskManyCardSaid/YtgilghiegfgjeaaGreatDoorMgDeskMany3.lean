/- Joined: Base, Dk1, Dk2, Dt1, Dk5, Turn, Lna1, Lna2, Dt2, Lt48, Dm1, Dm2, Xq1, Xq2. -/
import Derived.WalkKit
import Derived.WalkSpells
import Derived.WalkLawsBesides
import Derived.ProofKit
import Derived.Below
import Derived.Outline
import Derived.Lib.Hide
import Derived.Deep.QuietTactic
import Derived.BigQuiet
import Derived.Deep.Draws
import Derived.Calls
import Derived.RowKit
import Derived.Test.YtgilghiegfgjeaaGreatDoorRows
import Derived.ScopeJumps
import Derived.WalkMore
import Derived.Laws.BytesString
import Derived.Laws.Strings
import Derived.Tactics
import Derived.RegionCalls
import Derived.WideShapes
import Derived.Laws.Strings3
import Derived.Shelf.Strings.Prefix
import Derived.Lib.Bytealg
import Derived.Laws.OwnMore
import Derived.Laws.MakeOwn
section
set_option linter.unusedVariables false
set_option linter.unusedSimpArgs false
/-
  Words for memory that my walks share: a slice that reads as a list of elements (RdL), a call that only reads (Qt), small laws on the two. No program in sight.
-/
namespace Go.Proofs.YtgilghiegfgjeaaGreatDoor
open Go.RowKit

def Qt (w w' : World) : Prop := ∃ n, w' = w.drewN n

theorem Qt.refl (w : World) : Qt w w := ⟨0, rfl⟩
theorem Qt.trans {a b c : World} (h : Qt a b) (k : Qt b c) : Qt a c := by
  obtain ⟨n, rfl⟩ := h; obtain ⟨m, rfl⟩ := k
  exact ⟨n + m, by rw [World.drewN_drewN]⟩
theorem below_drewN {B : Nat} {a w : World} (h : Below B a w) (n : Nat) : Below B a (w.drewN n) := ⟨h.os, h.tape, h.output, h.size, h.block⟩
theorem Qt.below {w w' : World} (h : Qt w w') (B : Nat) : Below B w w' := by
  obtain ⟨n, rfl⟩ := h
  exact below_drewN (Below.refl _ _) n
section
variable {α : Type} {w w' : World} {v : Value} {sz : Nat} {enc : α → List Value} {l : List α}
end

theorem quiet_left {P : Program} {f : FuncId} {args : Array Value} {w : World} {n : Nat} {v : Value}
    (h : Calls P f args (w.drewN n) fun e w' => e = .returned v ∧ w.drewN n = w') : Calls P f args (w.drewN n) fun e w'' => e = .returned v ∧ ∃ m, w'' = w.drewN m :=
  h.mono fun _ _ ⟨he, hm⟩ => ⟨he, n, hm.symm⟩
/-- a block known whole -/
def Blk (w : World) (g : Nat) (t : TypeId) (cs : Array Value) : Prop := w.heap[g]? = some (.cells cs t (0, 0))
section
variable {w w' : World} {g : Nat} {t : TypeId} {cs : Array Value}
theorem Blk.lt (h : Blk w g t cs) : g < w.heap.size := lt_of_block h
theorem Blk.cell (h : Blk w g t cs) (i : Nat) : w.cell? ⟨g, i, none⟩ = cs[i]? := cell_of_row w g i cs t (0, 0) h
theorem Blk.free (h : Blk w g t cs) (i : Nat) : w.frozen? ⟨g, i, none⟩ = false := by unfold Blk at h; simp [World.frozen?, h]
theorem Blk.new (w : World) (t : TypeId) (cs : Array Value) : Blk (w.alloc (.cells cs t)) w.heap.size t cs := heap_alloc_new w _
theorem Blk.drewN (h : Blk w g t cs) (n : Nat) : Blk (w.drewN n) g t cs := h
theorem Blk.drew (h : Blk w g t cs) : Blk w.drew g t cs := h
theorem Blk.alloc (h : Blk w g t cs) (o : Obj) : Blk (w.alloc o) g t cs := (Below.heap_alloc w o g h.lt).trans h
theorem Blk.set_ (h : Blk w g t cs) (i : Nat) (u : Value) : Blk (w.setCell ⟨g, i, none⟩ u) g t (cs.setIfInBounds i u) := by
  unfold Blk at h ⊢
  simp [World.setCell, Array.getElem?_modify, h]
theorem Blk.below {B : Nat} (h : Blk w g t cs) (hb : Below B w w') (hg : g < B) : Blk w' g t cs := (hb.block g hg).trans h
theorem Blk.grown {row : Option Nat} (h : Blk w g t cs) (hb : w.grownBy w' row) (hg : some g ≠ row) : Blk w' g t cs := (hb.block g h.lt hg).trans h
end
end Go.Proofs.YtgilghiegfgjeaaGreatDoor
end
section
set_option linter.unusedVariables false
set_option linter.unusedSimpArgs false
/- Numbers as texts: digits, plainly. -/
namespace Go.Proofs.YtgilghiegfgjeaaGreatDoor.Dk
set_option linter.unusedVariables false

def digs (n : Nat) : List UInt8 := if h : n < 10 then [UInt8.ofNat (48 + n)] else digs (n / 10) ++ [UInt8.ofNat (48 + n % 10)]
termination_by n
decreasing_by omega
def val (l : List UInt8) : Nat := l.foldl (fun a b => 10 * a + (b.toNat - 48)) 0
def IsD (b : UInt8) : Prop := 48 ≤ b.toNat ∧ b.toNat ≤ 57
instance (b : UInt8) : Decidable (IsD b) := inferInstanceAs (Decidable (_ ∧ _))
/-- a number's text -/
def txt (z : Int) : List UInt8 := if z < 0 then 45 :: digs z.natAbs else digs z.natAbs

theorem digs_small {n : Nat} (h : n < 10) : digs n = [UInt8.ofNat (48 + n)] := by rw [digs, dif_pos h]
theorem digs_big {n : Nat} (h : ¬ n < 10) : digs n = digs (n / 10) ++ [UInt8.ofNat (48 + n % 10)] := by rw [digs, dif_neg h]
theorem ofNat_toNat {n : Nat} (h : n < 256) : (UInt8.ofNat n).toNat = n := by
  rw [UInt8.toNat_ofNat']; omega
theorem digs_ne (n : Nat) : digs n ≠ [] := by
  by_cases h : n < 10
  · rw [digs_small h]; simp
  · rw [digs_big h]; simp
theorem digs_len (k : Nat) : ∀ n, n < 10 ^ (k + 1) → (digs n).length ≤ k + 1 := by
  induction k with
  | zero => intro n h; rw [digs_small (by simpa using h)]; simp
  | succ k ih =>
    intro n h
    by_cases h' : n < 10
    · rw [digs_small h']; simp
    · rw [digs_big h', List.length_append]
      have := ih (n / 10) (by rw [Nat.div_lt_iff_lt_mul (by omega), ← Nat.pow_succ]; exact h)
      simp; omega
def inR (z : Int) : Prop := -9223372036854775808 ≤ z ∧ z ≤ 9223372036854775807
instance (z : Int) : Decidable (inR z) := inferInstanceAs (Decidable (_ ∧ _))
theorem txt_len {z : Int} (h : inR z) : (txt z).length ≤ 20 := by
  unfold inR at h
  have e : 10 ^ (18 + 1) = 10000000000000000000 := by decide
  have := digs_len 18 z.natAbs (by omega)
  unfold txt; split
  · simp; omega
  · omega
end Go.Proofs.YtgilghiegfgjeaaGreatDoor.Dk
end
section
set_option linter.unusedVariables false
set_option linter.unusedSimpArgs false
/- Numbers as texts: the loops' plain steps. -/
namespace Go.Proofs.YtgilghiegfgjeaaGreatDoor.Dk
open Go.RowKit
set_option linter.unusedVariables false

/-- a number's last digit, and what is left -/
theorem digs_step {z : Int} : digs z.natAbs = (if z.tdiv 10 = 0 then [] else digs (z.tdiv 10).natAbs) ++ [UInt8.ofNat (48 + (z.tmod 10).natAbs)] := by
  have h1 : (z.tdiv 10).natAbs = z.natAbs / 10 := by rw [Int.natAbs_tdiv]; rfl
  have h2 : (z.tmod 10).natAbs = z.natAbs % 10 := by rw [Int.natAbs_tmod]; rfl
  have h3 : z.tdiv 10 = 0 ↔ z.natAbs / 10 = 0 := by rw [← h1]; omega
  by_cases h : z.natAbs < 10
  · rw [if_pos (h3.mpr (by omega)), digs_small h, h2, Nat.mod_eq_of_lt h]; rfl
  · rw [if_neg (fun e => by have := h3.mp e; omega), digs_big h, h1, h2]
theorem txt_digit {z : Int} (h : 0 ≤ z ∧ z < 10) : txt z = [UInt8.ofNat (48 + z.natAbs)] := by
  rw [txt, if_neg (by omega), digs_small (by omega)]
end Go.Proofs.YtgilghiegfgjeaaGreatDoor.Dk
end
section
set_option linter.unusedVariables false
set_option linter.unusedSimpArgs false
/- Layer 3: dec.Text: a number's text. -/
namespace Go.Proofs.YtgilghiegfgjeaaGreatDoor
open Go.RowKit Dk

def byteV (b : UInt8) : Value := .int .u8 (b.toNat : Int)
theorem strOfBytes (L : List UInt8) : ∀ (s : ByteArray), ((L.map fun b => (b.toNat : Int)).foldl (fun r n => r.push (UInt8.ofNat n.toNat)) s) = ⟨s.data ++ L.toArray⟩ := by
  induction L with
  | nil => intro s; cases s; simp
  | cons b L ih =>
    intro s
    rw [List.map_cons, List.foldl_cons, ih]
    cases s
    simp [ByteArray.push]
theorem addr_add (b o j : Nat) : (⟨b, o, none⟩ : Addr).add j = ⟨b, o + j, none⟩ := by
  unfold Addr.add
  by_cases h : j = 0
  · subst h; simp
  · simp [h]
/-- bytes that lie in a block, as a string -/
theorem conv_bytes {P : Program} (src dst e : TypeId) (hs : P.underlying src = some (.slice e)) (he : P.underlying e = some (.int .u8)) (hd : P.underlying dst = some .string) {w : World} {b o : Nat} (L : List UInt8) (c : Nat)
    (h : ∀ (j : Nat) x, L[j]? = some x → w.cell? ⟨b, o + j, none⟩ = some (byteV x)) : (convert src dst (.slice (some ⟨b, o, none⟩) L.length c)).run P w = .ok (.string ⟨L.toArray⟩) w := by
  rw [run_convert_bytes_string w src dst e _ _ _ hs he hd]
  have hl := run_loadCells_list (P := P) w ⟨b, o, none⟩ ((L.map fun b => (b.toNat : Int)).map (Value.int .u8)) (fun j v hv => by
    rw [List.getElem?_map, List.getElem?_map] at hv
    cases hx : L[j]? with
    | none => rw [hx] at hv; cases hv
    | some x => rw [hx] at hv; injection hv with hv; rw [← hv]; exact (show (⟨b, o, none⟩ : Addr).add j = ⟨b, o + j, none⟩ from addr_add _ _ _) ▸ h j x hx)
  rw [show ((L.map fun b => (b.toNat : Int)).map (Value.int .u8)).length = L.length by simp] at hl
  rw [run_bytesToString w _ _ _ _ hl, strOfBytes]
  simp
theorem tx_nums {left : Int} (hl : -9223372036854775808 ≤ left ∧ left ≤ 9223372036854775807) : wrap64 (left.tdiv 10) = left.tdiv 10 ∧ (left.tdiv 10).natAbs = left.natAbs / 10 ∧ (left.tmod 10).natAbs < 10 ∧ (left.tmod 10 < 0 → wrap64 (-left.tmod 10) = ((left.tmod 10).natAbs : Int)) ∧ (¬ left.tmod 10 < 0 → left.tmod 10 = ((left.tmod 10).natAbs : Int)) := by
  have q1 : (left.tdiv 10).natAbs = left.natAbs / 10 := by rw [Int.natAbs_tdiv]; rfl
  have q2 : (left.tmod 10).natAbs = left.natAbs % 10 := by rw [Int.natAbs_tmod]; rfl
  generalize left.tdiv 10 = a at *
  generalize left.tmod 10 = b at *
  unfold wrap64
  refine ⟨by omega, by omega, by omega, fun h => by omega, fun h => by omega⟩
theorem tx_at (k : Nat) (hk : k ≤ 20) : wrap64 (((k + 1 : Nat) : Int) - 1) = (k : Int) := by unfold wrap64; omega
structure TxD (w w' : World) (at_ : Nat) (cs : Array Value) (L : List UInt8) : Prop where
  bel : Below w.heap.size w w'
  blk : Blk w' w.heap.size 71 cs
  size : cs.size = 20
  len : at_ + L.length = 20
  on : ∀ (j : Nat) x, L[j]? = some x → cs[at_ + j]? = some (byteV x)
theorem TxD.put {w w' : World} {k : Nat} {cs : Array Value} {L : List UInt8} (h : TxD w w' (k + 1) cs L) (v : Value) (x : UInt8) (hv : v = byteV x) : TxD w (w'.setCell ⟨w.heap.size, k, none⟩ v) k (cs.setIfInBounds k v) (x :: L) := by
  have hk : k < cs.size := by have := h.size; have := h.len; omega
  refine ⟨h.bel.setCell (Nat.le_refl _) _, h.blk.set_ k v, by simp [h.size], by have := h.len; simp; omega, fun j y hy => ?_⟩
  cases j with
  | zero =>
    simp at hy
    subst hy
    rw [Nat.add_zero, Array.getElem?_setIfInBounds_self_of_lt hk, hv]
  | succ j =>
    rw [Array.getElem?_setIfInBounds_ne (by omega), show k + (j + 1) = k + 1 + j by omega]
    exact h.on j y (by simpa using hy)
theorem TxD.conv {w w' : World} {k : Nat} {cs : Array Value} {L : List UInt8} (h : TxD w w' k cs L) (m : Nat) (hm : m = 20 - k) : (convert 22 9 (.slice (some ⟨w.heap.size, k, none⟩) m m)).run Tryz.prog w' = .ok (.string ⟨L.toArray⟩) w' := by
  subst hm
  have := conv_bytes (P := Tryz.prog) 22 9 5 Tryz.underlying22 Tryz.underlying5 Tryz.underlying9 (w := w') (b := w.heap.size) (o := k) L (20 - k) fun j x hx => by rw [h.blk.cell]; exact h.on j x hx
  rwa [show L.length = 20 - k by have := h.len; omega] at this
structure TxJ (w w' : World) (n : Int) (at_ : Nat) (left : Int) (cs : Array Value) (L : List UInt8) : Prop extends TxD w w' at_ cs L where
  inl : inR left
  digs : Dk.digs n.natAbs = Dk.digs left.natAbs ++ L
set_option maxRecDepth 100000 in
theorem slice20 (w : World) (b m : Nat) (z : Int) (hz : z = m) (hm : m ≤ 19) : (Instr.sliceAt 71 (.pointer (some ⟨b, 0, none⟩)) (some (.int .i64 z)) none none).run Tryz.prog w = .ok (.slice (some ⟨b, m, none⟩) (20 - m) (20 - m)) w := by
  subst hz
  rw [run_sliceAt_array_l w 71 ⟨b, 0, none⟩ Tryz.underlying71 .i64 (m : Int) (by omega) (show (m : Int) ≤ 20 by omega)]
  rw [show (sizeOf (Tryz.prog.elem 71)).run Tryz.prog w = .ok 1 w from Tryz.sizeOf5 w]
  show Result.ok (slicedAt ⟨b, 0, none⟩ (m : Int).toNat 20 20 1) w = _
  rw [Int.toNat_natCast]
  unfold slicedAt
  rw [if_neg (by omega), Nat.mul_one, addr_add, Nat.zero_add]
/-- a digit more is written -/
theorem TxJ.put {w w' : World} {n : Int} {k : Nat} {left : Int} {cs : Array Value} {L : List UInt8} (h : TxJ w w' n (k + 1) left cs L) (v : Value) (hv : v = byteV (UInt8.ofNat (48 + (left.tmod 10).natAbs))) (hl : (left.tmod 10).natAbs < 10) :
    TxD w (w'.setCell ⟨w.heap.size, k, none⟩ v) k (cs.setIfInBounds k v) (UInt8.ofNat (48 + (left.tmod 10).natAbs) :: L) ∧ Dk.digs n.natAbs = (if left.tdiv 10 = 0 then [] else Dk.digs (left.tdiv 10).natAbs) ++ UInt8.ofNat (48 + (left.tmod 10).natAbs) :: L := by
  refine ⟨h.toTxD.put v _ hv, ?_⟩
  rw [h.digs, digs_step, List.append_assoc, List.singleton_append]
theorem wp_mono' {P : Program} {c : Code} {Q Q' : Exit → Act → World → Prop} {a : Act} {w : World} (h : c.wp P Q a w) (hq : ∀ e a w, Q e a w → Q' e a w) : c.wp P Q' a w :=
  fun b k cs => let ⟨e, a', w', q, r⟩ := h b k cs; ⟨e, a', w', hq _ _ _ q, r⟩
/-- a scope of one label, which is entered from ahead too: what holds there, a measure that a pass lowers -/
theorem wp_scope_jumps' {P : Program} {Q : Exit → Act → World → Prop} {a : Act} {w : World} {c rest : Code} (l : Nat) (J : Act → World → Prop) (μ : Act → World → Nat) (hf : findLabel c l = some (.seq .skip rest))
    (first : (∀ a w, J a w → rest.wp P (Exit.jump l J Q) a w) → c.wp P (Exit.jump l J Q) a w)
    (pass : ∀ a w (J' : Act → World → Prop), (∀ a' w', J a' w' → μ a' w' < μ a w → J' a' w') → J a w → rest.wp P (Exit.jump l J' Q) a w) : (Code.scope c).wp P Q a w := by
  refine wp_scope_jumps l J μ hf (first fun a w h => wp_mono' (pass a w (fun a' w' => J a' w' ∧ μ a' w' < μ a w) (fun a' w' h1 h2 => ⟨h1, h2⟩) h) fun e a' w' hq => ?_) fun a w h => wp_seq (wp_skip (pass a w (fun a' w' => J a' w' ∧ μ a' w' < μ a w) (fun a' w' h1 h2 => ⟨h1, h2⟩) h))
  cases e with
  | goto l' => exact ⟨hq.1, hq.2.1⟩
  | _ => exact hq
theorem TxJ.room {w w' : World} {n : Int} {at_ : Nat} {left : Int} {cs : Array Value} {L : List UInt8} (h : TxJ w w' n at_ left cs L) (hn : -9223372036854775808 ≤ n ∧ n ≤ 9223372036854775807) : 2 ≤ at_ ∧ at_ ≤ 20 := by
  have h1 := digs_len 18 n.natAbs (by omega)
  have h2 := congrArg List.length h.digs
  have h3 : 1 ≤ (Dk.digs left.natAbs).length := List.length_pos_iff.2 (digs_ne _)
  rw [List.length_append] at h2
  have := h.len
  omega
theorem TxJ.cell {w w' : World} {n : Int} {at_ : Nat} {left : Int} {cs : Array Value} {L : List UInt8} (h : TxJ w w' n at_ left cs L) (k : Nat) (hk : k < 20) : ∃ z, w'.cell? ⟨w.heap.size, k, none⟩ = some z := by
  rw [h.blk.cell]
  exact ⟨cs[k]'(by rw [h.size]; exact hk), Array.getElem?_eq_getElem _⟩
def intOf' : Value → Int | .int _ q => q | _ => 0
def TxI (w : World) (n : Int) (a' : Act) (w' : World) : Prop := ∃ (at_ : Nat) (left : Int) (cs : Array Value) (L : List UInt8) (u6 u7 u8 u9 u10 u11 u12 u13 u14 u15 u16 u17 u18 u19 u20 u21 u22 u23 u24 u25 u26 u27 u28 u29 u30 u31 u32 u33 : Value), a' = { tmps := #[.int .i64 n, undef, .string ⟨#[]⟩, .pointer (some ⟨w.heap.size, 0, none⟩), .int .i64 at_, .int .i64 left, u6, u7, u8, u9, u10, u11, u12, u13, u14, u15, u16, u17, u18, u19, u20, u21, u22, u23, u24, u25, u26, u27, u28, u29, u30, u31, u32, u33], defers := [] } ∧ TxJ w w' n at_ left cs L
def txMu (a' : Act) (_ : World) : Nat := (intOf' (a'.tmps.getD 5 undef)).natAbs
set_option maxRecDepth 100000 in
set_option maxHeartbeats 4000000 in
theorem text_any (n : Int) (hn : inR n) (w : World) : Calls Tryz.prog 22 #[.int .i64 n] w fun e w' => e = .returned (.string ⟨(txt n).toArray⟩) ∧ Below w.heap.size w w' := by
  have hn' : -9223372036854775808 ≤ n ∧ n ≤ 9223372036854775807 := hn
  go_enter Tryz.func22, Tryz.ntmps22
  go_wp2
  refine wp_scope_jumps' 0 (TxI w n) txMu rfl ?_ ?_
  · intro hpass
    go_wp2
    go_step3
    rename_i hK
    refine hK _ _ (hpass _ _ ⟨20, n, _, [], _, _, _, _, _, _, _, _, _, _, _, _, _, _, _, _, _, _, _, _, _, _, _, _, _, _, _, _, rfl, ⟨⟨(Below.refl _ _).alloc (Nat.le_refl _) _, Blk.new _ _ _, rfl, rfl, fun j x h => by simp at h⟩, hn, by simp⟩⟩)
  · intro a' w' J hJg hJ0
    obtain ⟨at_, left, cs, L, u6, u7, u8, u9, u10, u11, u12, u13, u14, u15, u16, u17, u18, u19, u20, u21, u22, u23, u24, u25, u26, u27, u28, u29, u30, u31, u32, u33, rfl, HJ⟩ := hJ0
    obtain ⟨k, rfl⟩ : ∃ k, at_ = k + 1 := ⟨at_ - 1, by have := HJ.room hn'; omega⟩
    have hk := HJ.room hn'
    have hl : -9223372036854775808 ≤ left ∧ left ≤ 9223372036854775807 := HJ.inl
    have e1 := tx_at k (by omega)
    obtain ⟨z, hc⟩ := HJ.cell k (by omega)
    have hf := HJ.blk.free k
    obtain ⟨e4, q1, q2, q3, q4⟩ := tx_nums hl
    have hgo : ∀ (w1 : World) (at1 : Nat) (cs1 : Array Value) (L1 : List UInt8) (v6 v7 v8 v9 v10 v11 v12 v13 v14 v15 v16 v17 v18 v19 v20 v21 v22 v23 v24 v25 v26 v27 v28 v29 v30 v31 v32 v33 : Value), left.tdiv 10 ≠ 0 → TxJ w w1 n at1 (left.tdiv 10) cs1 L1 →
        J { tmps := #[.int .i64 n, undef, .string ⟨#[]⟩, .pointer (some ⟨w.heap.size, 0, none⟩), .int .i64 (at1 : Int), .int .i64 (left.tdiv 10), v6, v7, v8, v9, v10, v11, v12, v13, v14, v15, v16, v17, v18, v19, v20, v21, v22, v23, v24, v25, v26, v27, v28, v29, v30, v31, v32, v33], defers := [] } w1 := by
      rintro w1 at1 cs1 L1 v6 v7 v8 v9 v10 v11 v12 v13 v14 v15 v16 v17 v18 v19 v20 v21 v22 v23 v24 v25 v26 v27 v28 v29 v30 v31 v32 v33 hne HJ1
      refine hJg _ _ ⟨at1, _, cs1, L1, v6, v7, v8, v9, v10, v11, v12, v13, v14, v15, v16, v17, v18, v19, v20, v21, v22, v23, v24, v25, v26, v27, v28, v29, v30, v31, v32, v33, rfl, HJ1⟩ ?_
      show (left.tdiv 10).natAbs < left.natAbs
      omega
    clear hJg
    obtain ⟨j, rfl⟩ : ∃ j, k = j + 1 := ⟨k - 1, by omega⟩
    obtain ⟨z2, hc2⟩ := HJ.cell j (by omega)
    have hf2 := HJ.blk.free j
    have q5 : inR (left.tdiv 10) := by unfold inR; omega
    clear q3 q4 e1
    by_cases hneg : left.tmod 10 < 0
    · obtain ⟨D1, D2⟩ := HJ.put (.int .u8 (48 + -left.tmod 10)) (by unfold byteV; rw [ofNat_toNat (by omega)]; congr 1; omega) q2
      have _q := q2
      generalize UInt8.ofNat (48 + (left.tmod 10).natAbs) = x at D1 D2
      by_cases hz : left.tdiv 10 = 0
      · rw [if_pos hz, List.nil_append] at D2
        by_cases hn0 : n < 0
        · have D3 := D1.put (.int .u8 45) 45 rfl
          have hT : txt n = 45 :: x :: L := by rw [txt, if_pos hn0, D2]
          clear D2
          go_wp2
          rw [slice20 _ _ j _ (by omega) (by omega)]
          go_wp2
          rw [D3.conv _ (by omega)]
          go_wp2
          simp only [Exit.jump]
          go_ret
          exact ⟨by rw [hT]; rfl, D3.bel⟩
        · have hT : txt n = x :: L := by rw [txt, if_neg hn0, D2]
          clear D2
          go_wp2
          rw [slice20 _ _ (j + 1) _ (by omega) (by omega)]
          go_wp2
          rw [D1.conv _ (by omega)]
          go_wp2
          simp only [Exit.jump]
          go_ret
          exact ⟨by rw [hT]; rfl, D1.bel⟩
      · rw [if_neg hz] at D2
        have HJ1 : TxJ w _ n (j + 1) (left.tdiv 10) _ _ := ⟨D1, q5, D2⟩
        clear D2
        go_wp2
        go_step3
        exact ⟨rfl, hgo _ (j + 1) _ _ _ _ _ _ _ _ _ _ _ _ _ _ _ _ _ _ _ _ _ _ _ _ _ _ _ _ _ _ hz HJ1⟩
    · obtain ⟨D1, D2⟩ := HJ.put (.int .u8 (48 + left.tmod 10)) (by unfold byteV; rw [ofNat_toNat (by omega)]; congr 1; omega) q2
      have _q := q2
      generalize UInt8.ofNat (48 + (left.tmod 10).natAbs) = x at D1 D2
      by_cases hz : left.tdiv 10 = 0
      · rw [if_pos hz, List.nil_append] at D2
        by_cases hn0 : n < 0
        · have D3 := D1.put (.int .u8 45) 45 rfl
          have hT : txt n = 45 :: x :: L := by rw [txt, if_pos hn0, D2]
          clear D2
          go_wp2
          rw [slice20 _ _ j _ (by omega) (by omega)]
          go_wp2
          rw [D3.conv _ (by omega)]
          go_wp2
          simp only [Exit.jump]
          go_ret
          exact ⟨by rw [hT]; rfl, D3.bel⟩
        · have hT : txt n = x :: L := by rw [txt, if_neg hn0, D2]
          clear D2
          go_wp2
          rw [slice20 _ _ (j + 1) _ (by omega) (by omega)]
          go_wp2
          rw [D1.conv _ (by omega)]
          go_wp2
          simp only [Exit.jump]
          go_ret
          exact ⟨by rw [hT]; rfl, D1.bel⟩
      · rw [if_neg hz] at D2
        have HJ1 : TxJ w _ n (j + 1) (left.tdiv 10) _ _ := ⟨D1, q5, D2⟩
        clear D2
        go_wp2
        go_step3
        exact ⟨rfl, hgo _ (j + 1) _ _ _ _ _ _ _ _ _ _ _ _ _ _ _ _ _ _ _ _ _ _ _ _ _ _ _ _ _ _ hz HJ1⟩
end Go.Proofs.YtgilghiegfgjeaaGreatDoor
end
section
set_option linter.unusedVariables false
set_option linter.unusedSimpArgs false
/- Layer 3: dec.next, dec.digits. -/
namespace Go.Proofs.YtgilghiegfgjeaaGreatDoor
open Go.RowKit Dk

theorem lenData (s : ByteArray) : s.data.toList.length = s.size := rfl
end Go.Proofs.YtgilghiegfgjeaaGreatDoor
end
section
set_option linter.unusedVariables false
set_option linter.unusedSimpArgs false
/- A contract of the library's shelf, laid at this program (written by the kit's lay-plain.mjs: wip/lay48.sh). -/
namespace Go.Proofs
open Go.Shelf
def Tryz.ltrim_ren : Go.Shelf.Ren := ⟨fun | 102 => 29 | 209 => 42 | 207 => 66 | n => n, fun | 9 => 9 | 4 => 4 | 3 => 3 | n => n, fun | n => n⟩
theorem Tryz.ltrim : Go.Proofs.Lays.n102 Tryz.prog Tryz.ltrim_ren := {
  mixed := by kernel_rfl
  f102 := Tryz.func29.trans (congrArg some (by kernel_rfl))
  f207 := Tryz.func66.trans (congrArg some (by kernel_rfl))
  f209 := Tryz.func42.trans (congrArg some (by kernel_rfl))
  t3 := Tryz.underlying3
  a3 := Tryz.isAgg3
  z3 := Tryz.sizeOf3
  v3 := Tryz.zeroValue3
  t4 := Tryz.underlying4
  a4 := Tryz.isAgg4
  z4 := Tryz.sizeOf4
  v4 := Tryz.zeroValue4
  t9 := Tryz.underlying9
  a9 := Tryz.isAgg9
  z9 := Tryz.sizeOf9
  v9 := Tryz.zeroValue9 }
end Go.Proofs
end
section
set_option linter.unusedVariables false
set_option linter.unusedSimpArgs false
/- Layer 48: a text of blanks: its one line, the first that is wrong. -/
namespace Go.Proofs.YtgilghiegfgjeaaGreatDoor
open Go.RowKit Go.Shelf Dk

def errB : ByteArray := ⟨#[101, 114, 114, 111, 114, 32, 49]⟩
def errN : ByteArray := ⟨#[101, 114, 114, 111, 114, 32, 49, 10]⟩
theorem bytes_nil (s : ByteArray) : (⟨#[]⟩ : ByteArray) ++ s = s := by
  apply ByteArray.ext
  simp
theorem each_any (w : World) (p : Addr) (s t : ByteArray) (hp : w.cell? p = some (.string t)) (hz : w.frozen? p = false) (hs : s.size ≤ 100000) (ht : t.size ≤ 100000) :
    Calls Tryz.prog 32 #[.string s, .pointer (some p)] w fun e w' => e = .returned (.tuple #[]) ∧ w' = w.setCell p (.string (t ++ (s ++ ⟨#[10]⟩))) := by
  go_enter Tryz.func32, Tryz.ntmps32
  go_wp2
  go_end0
  exact ⟨rfl, rfl⟩
theorem linesText_one (w : World) (b cap : Nat) (s : ByteArray) (hb : w.cell? ⟨b, 0, none⟩ = some (.string s)) (hc : 1 ≤ cap) (hs : s.size ≤ 100000) :
    Calls Tryz.prog 14 #[.slice (some ⟨b, 0, none⟩) 1 cap] w fun e w' => e = .returned (.string (s ++ ⟨#[10]⟩)) ∧ Below w.heap.size w w' := by
  have hbl := World.block_lt_of_cell? w _ hb
  simp only at hbl
  have hne : ¬ b = w.heap.size := by omega
  go_enter Tryz.func14, Tryz.ntmps14
  go_wp2
  go_loopw [10] (fun j wr => ∃ k : Nat, j = .int .i64 k ∧ k ≤ 1 ∧ Blk wr w.heap.size 9 #[.string (if k = 0 then ⟨#[]⟩ else s ++ ⟨#[10]⟩)] ∧ Below w.heap.size w wr) (fun j _ => 1 - (intOf j).toNat)
  case atStart => exact ⟨0, rfl, by omega, Blk.new _ _ _, (Below.refl _ _).alloc (Nat.le_refl _) _⟩
  case round =>
    obtain ⟨k, rfl, hk, hB, hbel⟩ := hrel
    obtain ⟨wo, rfl⟩ : ∃ wo : World, wo = wr := ⟨_, rfl⟩
    have hbw : wo.cell? ⟨b, 0, none⟩ = some (.string s) := (hbel.cell (by exact hbl)).trans hb
    have hz := hB.free 0
    rcases (show k = 0 ∨ k = 1 by omega) with rfl | rfl
    · have hcl : wo.cell? ⟨w.heap.size, 0, none⟩ = some (.string ⟨#[]⟩) := hB.cell 0
      have HB := Lib.hid (And.intro hB hbel)
      clear hB hbel
      go_wp2_with fail
      refine (each_any wo ⟨w.heap.size, 0, none⟩ s ⟨#[]⟩ hcl hz hs (by show 0 ≤ 100000; omega)).mono ?_
      rintro e w1 ⟨rfl, hw⟩
      rw [bytes_nil] at hw
      have H1 : Hid (Blk w1 w.heap.size 9 #[.string (s ++ ⟨#[10]⟩)] ∧ Below w.heap.size w w1) := Lib.hid (by rw [hw]; exact ⟨by simpa using HB.out.1.set_ 0 (.string (s ++ ⟨#[10]⟩)), HB.out.2.setCell (Nat.le_refl _) _⟩)
      clear hw
      go_wp2
      go_roundw
      case rel => exact ⟨1, rfl, by omega, H1.out.1, H1.out.2⟩
      case measure => simp [intOf]
    · have hcl : wo.cell? ⟨w.heap.size, 0, none⟩ = some (.string (s ++ ⟨#[10]⟩)) := hB.cell 0
      have HB := Lib.hid (And.intro hB hbel)
      clear hB hbel
      go_wp2
      go_ret
      exact ⟨rfl, HB.out.2⟩
theorem bad_one (w : World) : Calls Tryz.prog 15 #[.int .i64 1] w fun e w' => ∃ b, e = .returned (.slice (some ⟨b, 0, none⟩) 1 1) ∧ w'.cell? ⟨b, 0, none⟩ = some (.string errB) ∧ Below w.heap.size w w' := by
  go_enter Tryz.func15, Tryz.ntmps15
  go_wp2_with fail
  refine (text_any 1 (by unfold inR; omega) w).mono ?_
  rintro e w1 ⟨rfl, hb1⟩
  have H1 := Lib.hid hb1
  have hsz := hb1.size
  have hl : (txt 1).length ≤ 20 := txt_len (by unfold inR; omega)
  clear hb1
  go_wp2
  go_ret
  refine ⟨_, rfl, ?_, H1.out.alloc hsz _⟩
  rw [show txt 1 = [49] from txt_digit (by omega)]
  exact World.cell?_alloc_at _ _ _ _ rfl
end Go.Proofs.YtgilghiegfgjeaaGreatDoor
end
section
set_option linter.unusedVariables false
set_option linter.unusedSimpArgs false
/- Layer 48: a text of blanks: desk.Desk of it. -/
namespace Go.Proofs.YtgilghiegfgjeaaGreatDoor
open Go.RowKit Go.Shelf Dk

theorem trim_any (w : World) (s p : ByteArray) (hs : s.size ≤ 9223372036854775807) : Calls Tryz.prog 29 #[.string s, .string p] w fun e w' => e = .returned (.string ⟨(Lib.trimSuffix s.data.toList p.data.toList).toArray⟩) ∧ w' = w :=
  Any.strings_TrimSuffix Tryz.ltrim s p w hs
theorem count_none {l : List UInt8} (h : ∀ b ∈ l, b = 32) : Lib.countByte l 10 = 0 := by
  unfold Lib.countByte
  rw [List.count_eq_zero]
  intro hm
  exact absurd (h _ hm) (by decide)
theorem trim_none {l : List UInt8} (h : ∀ b ∈ l, b = 32) : Lib.trimSuffix l [10] = l := by
  unfold Lib.trimSuffix
  have : Lib.hasSuffix l [10] = false := by
    unfold Lib.hasSuffix
    cases hq : List.isSuffixOf [10] l with
    | false => rfl
    | true =>
      have hm := (List.isSuffixOf_iff_suffix.1 hq).mem (by simp : (10 : UInt8) ∈ [10])
      exact absurd (h _ hm) (by decide)
  rw [this]
  rfl
theorem countString_any (w : World) (s : ByteArray) (h : ∀ b ∈ s.data.toList, b = 32) : (callFunc 107 #[.string s, .int .u8 10]).run Tryz.prog w = .ok (.value (.int .i64 0)) w := by
  rw [run_callFunc_extern (e := Extern.BytealgCount.count) Tryz.func107 (by kernel_rfl) (by kernel_rfl) (by kernel_rfl) (by kernel_rfl), Lib.run_countString]
  show Result.ok (Next.value (.int .i64 (Lib.countByte s.data.toList 10 : Nat))) w = _
  rw [count_none h]
  rfl
theorem Tryz.infoDm : (Tryz.prog.info? 9).map (fun i => (i.zero, i.size, i.bytes)) = some (some (.string ⟨#[]⟩), 1, 16) := by kernel_rfl
theorem own_blk {w : World} {base g : Nat} {e : TypeId} {n c : Nat} {xs : List Value} (h : w.ownsRow base e 1 (.slice (some ⟨g, 0, none⟩) n c) n xs) (hn : 0 < n) : (∃ z, w.cell? ⟨g, 0, none⟩ = some z) ∧ ∀ i, w.frozen? ⟨g, i, none⟩ = false := by
  rcases h.2 with ⟨h1, _⟩ | ⟨g', cap, cur, h1, _, hg, hnc, _, hs, _⟩
  · cases h1
  · injection h1 with h1 _ h2
    injection h1 with h1
    injection h1 with h1 _
    subst h1
    have hB : Blk w g e cur := hg
    refine ⟨?_, hB.free⟩
    rw [hB.cell]
    exact ⟨cur[0]'(by omega), Array.getElem?_eq_getElem _⟩
set_option maxRecDepth 100000 in
set_option maxHeartbeats 2000000 in
theorem linesOf_blank (w : World) (s : ByteArray) (h0 : s.size = 20000) (h : ∀ b ∈ s.data.toList, b = 32) :
    Calls Tryz.prog 12 #[.string s] w fun e w' => ∃ b, e = .returned (.slice (some ⟨b, 0, none⟩) 1 1) ∧ Below w.heap.size w w' := by
  have hne : (s.toList == []) = false := by
    rw [ByteArray.toList_eq]
    refine beq_eq_false_iff_ne.2 fun e => ?_
    have := congrArg List.length e
    rw [lenData, h0] at this
    cases this
  have hne2 : s.toList.isEmpty = false := by
    rw [ByteArray.toList_eq]
    cases hl : s.data.toList with
    | nil => exfalso; have := congrArg List.length hl; rw [lenData, h0] at this; cases this
    | cons a l => rfl
  have htr : (⟨(Lib.trimSuffix s.data.toList [10]).toArray⟩ : ByteArray) = s := by rw [trim_none h]
  have HT := Lib.hid htr
  have HC := Lib.hid fun w : World => countString_any w s h
  have hsz : s.size ≤ 100000 := by omega
  have H0 := Lib.hid (And.intro h0 h)
  clear htr h0 h
  go_enter Tryz.func12, Tryz.ntmps12
  go_wp2_with fail
  refine (trim_any w s ⟨#[10]⟩ (by omega)).mono ?_
  rintro e w1 ⟨rfl, hw⟩
  obtain rfl := hw.symm
  rw [show (⟨#[10]⟩ : ByteArray).data.toList = [10] from rfl, HT.out]
  have hc : ∀ (w : World) (hh : 0 < (⟨#[10]⟩ : ByteArray).size), (callFunc 107 #[.string s, .int .u8 ((((⟨#[10]⟩ : ByteArray)[0]'hh).toNat : Nat) : Int)]).run Tryz.prog w = .ok (.value (.int .i64 0)) w := fun w _ => HC.out w
  have hmin : min (1 : Int) ((s.size : Int) + 1) = 1 := by omega
  obtain ⟨i0, hi, hz0, hz1, hz2⟩ := info_parts Tryz.infoDm
  obtain ⟨w4, hrun, hown, hg⟩ := run_make_full (P := Tryz.prog) w w.heap.size 28 9 i0 (.string ⟨#[]⟩) 1 Tryz.underlying28 hi hz0 hz1 .i64 .i64 1 (by rw [hz2]; omega) (by unfold maxLen; omega) (Nat.le_refl _)
  have hrun' : (Instr.makeSlice 28 (.int .i64 1) (.int .i64 1)).run Tryz.prog w = .ok (.slice (some ⟨w.heap.size, 0, none⟩) 1 1) w4 := hrun
  obtain ⟨⟨z, hz⟩, hfz⟩ := own_blk hown (by omega)
  have HB4 : Hid (Below w.heap.size w w4) := Lib.hid ((Below.refl _ _).grown hg (Nat.le_refl _) (fun j hj => by cases hj))
  clear hrun hown hg hi hz0 hz1 hz2
  go_wp2
  go_loopw [0, 10] (fun t j wr => t = .string s ∧ j = .int .i64 0 ∧ wr = w4) (fun _ _ _ => 0)
  case atStart => exact ⟨rfl, rfl, rfl⟩
  case round =>
    obtain ⟨rfl, rfl, hwr⟩ := hrel
    obtain rfl := hwr.symm
    go_wp2
    go_ret
    exact ⟨⟨_, rfl⟩, HB4.out.setCell (Nat.le_refl _) _⟩
theorem open_short (w : World) (b cap : Nat) : Calls Tryz.prog 13 #[.slice (some ⟨b, 0, none⟩) 1 cap] w fun e w' => e = .returned (.tuple #[.pointer none, .int .i64 1]) ∧ w' = w := by
  go_enter Tryz.func13, Tryz.ntmps13
  go_wp2
  go_ret2
  exact ⟨rfl, rfl⟩
theorem desk_blank (w : World) (s : ByteArray) (h0 : s.size = 20000) (h : ∀ b ∈ s.data.toList, b = 32) :
    Calls Tryz.prog 5 #[.string s] w fun e w' => e = .returned (.tuple #[.string errN, .int .i64 0]) ∧ Below w.heap.size w w' := by
  have HL := Lib.hid (linesOf_blank w s h0 h)
  have hsz : ¬ (20000 : Int) < (s.size : Int) := by omega
  clear h0 h
  go_enter Tryz.func5, Tryz.ntmps5
  go_wp2_with fail
  refine HL.out.mono ?_
  rintro e w1 ⟨b, rfl, hb1⟩
  have H1 := Lib.hid hb1
  clear hb1
  go_wp2_with fail
  refine (open_short w1 b 1).mono ?_
  rintro e w2 ⟨rfl, hw⟩
  obtain rfl := hw.symm
  go_wp2_with fail
  refine (bad_one w1).mono ?_
  rintro e w3 ⟨c, rfl, hc, hb3⟩
  have H3 := Lib.hid (And.intro hc (H1.out.trans (hb3.mono H1.out.size)))
  clear hc hb3
  go_wp2_with fail
  refine (linesText_one w3 c 1 errB H3.out.1 (Nat.le_refl _) (by decide)).mono ?_
  rintro e w4 ⟨rfl, hb4⟩
  have H4 := Lib.hid (H3.out.2.trans (hb4.mono H3.out.2.size))
  clear hb4
  go_wp2
  go_ret2
  exact ⟨rfl, H4.out⟩
theorem desk_long (w : World) (s : ByteArray) (h0 : 20000 < s.size) : Calls Tryz.prog 5 #[.string s] w fun e w' => e = .returned (.tuple #[.string ⟨#[]⟩, .int .i64 8]) ∧ w' = w := by
  have hsz : (20000 : Int) < (s.size : Int) := by omega
  go_enter Tryz.func5, Tryz.ntmps5
  go_wp2
  go_ret2
  exact ⟨rfl, rfl⟩
end Go.Proofs.YtgilghiegfgjeaaGreatDoor
end
section
set_option linter.unusedVariables false
set_option linter.unusedSimpArgs false
/- Running closed code: plain data that stands for values and memory, by names in the place of blocks; what it means for such data to be what a world holds. No program in sight. -/
namespace Go.Proofs.YtgilghiegfgjeaaGreatDoor
open Go.RowKit

/-! ### A tree of numbers -/
inductive Tr (α : Type) where
  | nil
  | nd (x : Option α) (l r : Tr α)
namespace Tr
variable {α : Type}
def get : Tr α → Nat → Option α
  | nil, _ => none
  | nd x l r, k => bif Nat.beq k 0 then x else bif Nat.beq (k % 2) 1 then l.get (k / 2) else r.get (k / 2 - 1)
def single : Nat → Nat → α → Tr α
  | 0, _, v => nd (some v) nil nil
  | f + 1, k, v => bif Nat.beq k 0 then nd (some v) nil nil else bif Nat.beq (k % 2) 1 then nd none (single f (k / 2) v) nil else nd none nil (single f (k / 2 - 1) v)
def set : Tr α → Nat → α → Tr α
  | nil, k, v => single k k v
  | nd x l r, k, v => bif Nat.beq k 0 then nd (some v) l r else bif Nat.beq (k % 2) 1 then nd x (l.set (k / 2) v) r else nd x l (r.set (k / 2 - 1) v)
def del : Tr α → Nat → Tr α
  | nil, _ => nil
  | nd x l r, k => bif Nat.beq k 0 then nd none l r else bif Nat.beq (k % 2) 1 then nd x (l.del (k / 2)) r else nd x l (r.del (k / 2 - 1))
theorem beqd (a b : Nat) : Nat.beq a b = decide (a = b) := by
  rw [Bool.eq_iff_iff, Nat.beq_eq]; simp
theorem get_single (v : α) : ∀ (f k : Nat), k ≤ f → ∀ j, (single f k v).get j = if j = k then some v else none
  | 0, k, h, j => by
    obtain rfl : k = 0 := by omega
    simp only [single, get, beqd]
    by_cases hj : j = 0 <;> simp [hj]
  | f + 1, k, h, j => by
    simp only [single, beqd]
    by_cases hk : k = 0
    · subst hk
      by_cases hj : j = 0 <;> simp [get, hj, beqd]
    · by_cases ho : k % 2 = 1
      · simp only [hk, ho, decide_false, decide_true, cond_false, cond_true, get, beqd]
        rw [get_single v f (k / 2) (by omega)]
        by_cases hj : j = 0
        · have : ¬ j = k := by omega
          simp [hj]; omega
        · by_cases hjo : j % 2 = 1
          · simp only [hj, hjo, decide_false, decide_true, cond_false, cond_true]
            by_cases e : j = k
            · subst e; simp
            · rw [if_neg (by omega), if_neg e]
          · simp only [hj, hjo, decide_false, cond_false]
            rw [if_neg (by omega)]
      · simp only [hk, ho, decide_false, cond_false, get, beqd]
        rw [get_single v f (k / 2 - 1) (by omega)]
        by_cases hj : j = 0
        · simp [hj]; omega
        · by_cases hjo : j % 2 = 1
          · simp only [hj, hjo, decide_false, decide_true, cond_false, cond_true]
            rw [if_neg (by omega)]
          · simp only [hj, hjo, decide_false, cond_false]
            by_cases e : j = k
            · subst e; simp
            · rw [if_neg (by omega), if_neg e]
theorem get_set (v : α) : ∀ (t : Tr α) (k j : Nat), (t.set k v).get j = if j = k then some v else t.get j
  | nil, k, j => by
    show (single k k v).get j = _
    rw [get_single v k k (Nat.le_refl _) j]; rfl
  | nd x l r, k, j => by
    simp only [set, beqd]
    by_cases hk : k = 0
    · subst hk
      by_cases hj : j = 0 <;> simp [get, hj, beqd]
    · by_cases ho : k % 2 = 1
      · simp only [hk, ho, decide_false, decide_true, cond_false, cond_true, get, beqd]
        by_cases hj : j = 0
        · simp [hj]; omega
        · by_cases hjo : j % 2 = 1
          · simp only [hj, hjo, decide_false, decide_true, cond_false, cond_true]
            rw [get_set v l]
            by_cases e : j = k
            · subst e; simp
            · rw [if_neg (by omega), if_neg e]
          · simp only [hj, hjo, decide_false, cond_false]
            rw [if_neg (by omega)]
      · simp only [hk, ho, decide_false, cond_false, get, beqd]
        by_cases hj : j = 0
        · simp [hj]; omega
        · by_cases hjo : j % 2 = 1
          · simp only [hj, hjo, decide_false, decide_true, cond_false, cond_true]
            rw [if_neg (by omega)]
          · simp only [hj, hjo, decide_false, cond_false]
            rw [get_set v r]
            by_cases e : j = k
            · subst e; simp
            · rw [if_neg (by omega), if_neg e]
theorem get_del : ∀ (t : Tr α) (k j : Nat), (t.del k).get j = if j = k then none else t.get j
  | nil, k, j => by simp [del, get]
  | nd x l r, k, j => by
    simp only [del, beqd]
    by_cases hk : k = 0
    · subst hk
      by_cases hj : j = 0 <;> simp [get, hj, beqd]
    · by_cases ho : k % 2 = 1
      · simp only [hk, ho, decide_false, decide_true, cond_false, cond_true, get, beqd]
        by_cases hj : j = 0
        · simp [hj]; omega
        · by_cases hjo : j % 2 = 1
          · simp only [hj, hjo, decide_false, decide_true, cond_false, cond_true]
            rw [get_del l]
            by_cases e : j = k
            · subst e; simp
            · rw [if_neg (by omega), if_neg e]
          · simp only [hj, hjo, decide_false, cond_false]
            rw [if_neg (by omega)]
      · simp only [hk, ho, decide_false, cond_false, get, beqd]
        by_cases hj : j = 0
        · simp [hj]; omega
        · by_cases hjo : j % 2 = 1
          · simp only [hj, hjo, decide_false, decide_true, cond_false, cond_true]
            rw [if_neg (by omega)]
          · simp only [hj, hjo, decide_false, cond_false]
            rw [get_del r]
            by_cases e : j = k
            · subst e; simp
            · rw [if_neg (by omega), if_neg e]
end Tr

/-! ### Values by names -/
/-- a slice's capacity: known, or what its block has room for (cells an element) -/
inductive Cp where
  | k (c : Nat)
  | u (es : Nat)
/-- what one cell holds -/
inductive C where
  | b (x : Bool)
  | i (k : IntKind) (n : Int)
  | s (x : ByteArray)
  | p (x : Option (Nat × Nat))
  | l (x : Option (Nat × Nat)) (n : Nat) (c : Cp)
  | f (fn : Nat) (first cap : List (Nat × Nat))
  | nf
  | ni
  /-- a map: nil, or its block's name -/
  | m (x : Option Nat)
  /-- a number that is not known: its name, and what is known of it (an operator's code, a number, the answer) -/
  | o (k : Nat) (f : List (Nat × Int × Bool))
  /-- an interface's value: a cell, or a struct of one cell -/
  | d (t : TypeId) (agg : Bool) (x : C)
/-- a cell, or a struct's or an array's cells -/
inductive Wv where
  | c (x : C)
  | a (cs : List C)
/-- a value of a temporary -/
inductive V where
  | w (x : Wv)
  | t (xs : List Wv)
/-- names' blocks, and how many cells these have -/
abbrev Nm := Nat → Option (Nat × Nat)
def Nm.le (r s : Nm) : Prop := ∀ k x, r k = some x → s k = some x
theorem Nm.le_refl (r : Nm) : r.le r := fun _ _ h => h
theorem Nm.le_trans {r s t : Nm} (h : r.le s) (k : s.le t) : r.le t := fun _ _ e => k _ _ (h _ _ e)
def ptrOf (b o : Nat) : Value := .pointer (some ⟨b, o, none⟩)
inductive AR (r : Nm) : List (Nat × Nat) → List Value → Prop where
  | nil : AR r [] []
  | cons {k o b sz xs vs} (h : r k = some (b, sz)) (t : AR r xs vs) : AR r ((k, o) :: xs) (ptrOf b o :: vs)
/-- a number that is not known stands for this one -/
def oV (b sz : Nat) : Int := if sz = 0 then (b : Int) else -(b : Int)
def cmpC : Nat → Int → Int → Option Bool
  | 0, x, y => some (x == y)
  | 1, x, y => some (x != y)
  | 2, x, y => some (decide (x < y))
  | 3, x, y => some (decide (x ≤ y))
  | 4, x, y => some (decide (x > y))
  | 5, x, y => some (decide (x ≥ y))
  | _, _, _ => none
inductive CR (r : Nm) : C → Value → Prop where
  | b (x) : CR r (.b x) (.bool x)
  | i (k n) : CR r (.i k n) (.int k n)
  | s (x) : CR r (.s x) (.string x)
  | p0 : CR r (.p none) (.pointer none)
  | p {k o b sz} (h : r k = some (b, sz)) : CR r (.p (some (k, o))) (ptrOf b o)
  | l0 (n c) : CR r (.l none n (.k c)) (.slice none n c)
  | l {k o b sz} (n c) (h : r k = some (b, sz)) : CR r (.l (some (k, o)) n (.k c)) (.slice (some ⟨b, o, none⟩) n c)
  | u {k o b sz} (n c es) (h : r k = some (b, sz)) (h1 : n ≤ c) (h2 : c ≤ maxLen) (h3 : o + c * es = sz) : CR r (.l (some (k, o)) n (.u es)) (.slice (some ⟨b, o, none⟩) n c)
  | f (fn) {a c va vc} (ha : AR r a va) (hc : AR r c vc) : CR r (.f fn a c) (.func (.func fn) va.toArray vc.toArray)
  | nf : CR r .nf .nilFunc
  | ni : CR r .ni .nilIface
  | m0 : CR r (.m none) (.map none)
  | m {k b sz} (h : r k = some (b, sz)) : CR r (.m (some k)) (.map (some b))
  | o {k b sz f} (h : r k = some (b, sz)) (hf : ∀ x ∈ f, cmpC x.1 (oV b sz) x.2.1 = some x.2.2) : CR r (.o k f) (.int .i64 (oV b sz))
  | d (t) {c v} (h : CR r c v) : CR r (.d t false c) (.iface t v)
  | da (t) {c v} (h : CR r c v) : CR r (.d t true c) (.iface t (.agg #[v]))
inductive CsR (r : Nm) : List C → List Value → Prop where
  | nil : CsR r [] []
  | cons {c v cs vs} (h : CR r c v) (t : CsR r cs vs) : CsR r (c :: cs) (v :: vs)
inductive WR (r : Nm) : Wv → Value → Prop where
  | c {x v} (h : CR r x v) : WR r (.c x) v
  | a {cs vs} (h : CsR r cs vs) : WR r (.a cs) (.agg vs.toArray)
inductive WsR (r : Nm) : List Wv → List Value → Prop where
  | nil : WsR r [] []
  | cons {c v cs vs} (h : WR r c v) (t : WsR r cs vs) : WsR r (c :: cs) (v :: vs)
inductive VR (r : Nm) : V → Value → Prop where
  | w {x v} (h : WR r x v) : VR r (.w x) v
  | t {xs vs} (h : WsR r xs vs) : VR r (.t xs) (.tuple vs.toArray)
section mono
variable {r s : Nm} (h : r.le s)
include h
theorem AR.mono {x v} (k : AR r x v) : AR s x v := by
  induction k with
  | nil => exact .nil
  | cons e _ ih => exact .cons (h _ _ e) ih
theorem CR.mono {x v} (k : CR r x v) : CR s x v := by
  induction k with
  | b => exact .b _
  | i => exact .i _ _
  | s => exact .s _
  | p0 => exact .p0
  | p e => exact .p (h _ _ e)
  | l0 => exact .l0 _ _
  | l n c e => exact .l n c (h _ _ e)
  | u n c es e h1 h2 h3 => exact .u n c es (h _ _ e) h1 h2 h3
  | f fn ha hc => exact .f fn (ha.mono h) (hc.mono h)
  | nf => exact .nf
  | ni => exact .ni
  | m0 => exact .m0
  | m e => exact .m (h _ _ e)
  | o e hf => exact .o (h _ _ e) hf
  | d t _ ih => exact .d t ih
  | da t _ ih => exact .da t ih
theorem CsR.mono {x v} (k : CsR r x v) : CsR s x v := by
  induction k with
  | nil => exact .nil
  | cons e _ ih => exact .cons (e.mono h) ih
theorem WR.mono {x v} (k : WR r x v) : WR s x v := by
  cases k with
  | c e => exact .c (e.mono h)
  | a e => exact .a (e.mono h)
theorem WsR.mono {x v} (k : WsR r x v) : WsR s x v := by
  induction k with
  | nil => exact .nil
  | cons e _ ih => exact .cons (e.mono h) ih
theorem VR.mono {x v} (k : VR r x v) : VR s x v := by
  cases k with
  | w e => exact .w (e.mono h)
  | t e => exact .t (e.mono h)
end mono

/-! ### Memory by names -/
/-- blocks that are no cells: a map's entries (keys, what is there); a range over a string (how far it is) -/
inductive KdB where
  | mp (l : List (C × C))
  | it (s : ByteArray) (pos : Nat)
structure Bk where
  e : TypeId
  n : Nat
  /-- what a cell holds that u does not name: this pattern, again and again -/
  d : List C
  u : Tr C
  mp : Option KdB
def Bk.cell (b : Bk) (j : Nat) : C := match b.u.get j with
  | some c => c
  | none => b.d.getD (j % b.d.length) .ni
abbrev Hp := Tr Bk
/-- what a block holds, as far as it is known -/
inductive MR (r : Nm) : List (C × C) → List MapEntry → Prop where
  | nil : MR r [] []
  | cons {k c e l es} (hk : CR r k e.key) (h : CR r c e.val) (t : MR r l es) : MR r ((k, c) :: l) (e :: es)
theorem MR.mono {r s : Nm} (h : r.le s) {l es} (k : MR r l es) : MR s l es := by
  induction k with
  | nil => exact .nil
  | cons hk e _ ih => exact .cons (hk.mono h) (e.mono h) ih
def KR (r : Nm) (w : World) (b : Nat) : KdB → Prop
  | .mp l => ∃ es clk, w.heap[b]? = some (.map es clk) ∧ MR r l es.toList
  | .it s p => w.heap[b]? = some (.stringIter s p)
theorem KR.mono {r s : Nm} (h : r.le s) {w : World} {b : Nat} {x : KdB} (k : KR r w b x) : KR s w b x := by
  cases x with
  | mp l => obtain ⟨es, clk, h1, h2⟩ := k; exact ⟨es, clk, h1, h2.mono h⟩
  | it t p => exact k
theorem KR.keep {r : Nm} {w w' : World} {b : Nat} {x : KdB} (k : KR r w b x) (h : w'.heap[b]? = w.heap[b]?) : KR r w' b x := by
  cases x with
  | mp l => obtain ⟨es, clk, h1, h2⟩ := k; exact ⟨es, clk, h.trans h1, h2⟩
  | it t p => exact h.trans k
theorem KR.lt {r : Nm} {w : World} {b : Nat} {x : KdB} (k : KR r w b x) : b < w.heap.size := by
  cases x with
  | mp l => obtain ⟨es, clk, h1, _⟩ := k; exact (Array.getElem?_eq_some_iff.1 h1).1
  | it t p => exact (Array.getElem?_eq_some_iff.1 k).1
theorem KR.frozen {r : Nm} {w : World} {b : Nat} {x : KdB} (k : KR r w b x) (o : Nat) : w.frozen? ⟨b, o, none⟩ = false := by
  cases x with
  | mp l => obtain ⟨es, clk, h1, _⟩ := k; simp [World.frozen?, h1]
  | it t p => have h1 : w.heap[b]? = some (.stringIter t p) := k; simp [World.frozen?, h1]
structure BR (r : Nm) (w : World) (B : Bk) (b sz : Nat) : Prop where
  mx : ∀ x, B.mp = some x → B.n = 0 ∧ KR r w b x
  ex : B.mp = none → ∃ cs, w.heap[b]? = some (.cells cs B.e (0, 0)) ∧ cs.size = sz ∧ B.n ≤ sz ∧ ∀ j, j < B.n → ∃ v, cs[j]? = some v ∧ CR r (B.cell j) v
/-- what a memory by names is in a world -/
structure RelH (r : Nm) (H : Hp) (w : World) : Prop where
  at_ : ∀ k B, H.get k = some B → ∃ b sz, r k = some (b, sz) ∧ BR r w B b sz
  inj : ∀ k j B D b s t, H.get k = some B → H.get j = some D → r k = some (b, s) → r j = some (b, t) → k = j
/-- what else a call leaves as it was -/
structure Fr (r : Nm) (H : Hp) (w w' : World) : Prop where
  os : w'.os = w.os
  tape : w'.tape = w.tape
  output : w'.output = w.output
  size : w.heap.size ≤ w'.heap.size
  block : ∀ b, b < w.heap.size → (∀ k B sz, H.get k = some B → r k ≠ some (b, sz)) → w'.heap[b]? = w.heap[b]?
theorem BR.mono {r s : Nm} {w : World} {B : Bk} {b sz : Nat} (h : r.le s) (k : BR r w B b sz) : BR s w B b sz := by
  refine ⟨fun l hl => ?_, fun hm => ?_⟩
  · exact ⟨(k.mx l hl).1, (k.mx l hl).2.mono h⟩
  · obtain ⟨cs, h1, h2, h3, h4⟩ := k.ex hm
    exact ⟨cs, h1, h2, h3, fun j hj => by obtain ⟨v, a, c⟩ := h4 j hj; exact ⟨v, a, c.mono h⟩⟩
theorem BR.lt {r : Nm} {w : World} {B : Bk} {b sz : Nat} (k : BR r w B b sz) : b < w.heap.size := by
  cases hm : B.mp with
  | none => obtain ⟨cs, h1, _⟩ := k.ex hm; exact (Array.getElem?_eq_some_iff.1 h1).1
  | some l => exact (k.mx l hm).2.lt
theorem BR.nomap {r : Nm} {w : World} {B : Bk} {b sz : Nat} (k : BR r w B b sz) (h : 0 < B.n) : B.mp = none := by
  cases hm : B.mp with
  | none => rfl
  | some l => have := (k.mx l hm).1; omega
theorem BR.keep {r : Nm} {w w' : World} {B : Bk} {b sz : Nat} (k : BR r w B b sz) (h : w'.heap[b]? = w.heap[b]?) : BR r w' B b sz := by
  refine ⟨fun l hl => ?_, fun hm => ?_⟩
  · exact ⟨(k.mx l hl).1, (k.mx l hl).2.keep h⟩
  · obtain ⟨cs, h1, h2⟩ := k.ex hm
    exact ⟨cs, h.trans h1, h2⟩
theorem Fr.refl (r : Nm) (H : Hp) (w : World) : Fr r H w w := ⟨rfl, rfl, rfl, Nat.le_refl _, fun _ _ _ => rfl⟩
theorem Fr.drew {r : Nm} {H : Hp} {w w' : World} (h : Fr r H w w') : Fr r H w w'.drew := ⟨h.os, h.tape, h.output, h.size, h.block⟩
end Go.Proofs.YtgilghiegfgjeaaGreatDoor
end
section
set_option linter.unusedVariables false
set_option linter.unusedSimpArgs false
/- Running closed code: operations that touch no memory. -/
namespace Go.Proofs.YtgilghiegfgjeaaGreatDoor
open Go.RowKit

/-! ### Constants -/
def cOf : Value → Option C
  | .bool b => some (.b b)
  | .int k n => some (.i k n)
  | .string s => some (.s s)
  | .pointer none => some (.p none)
  | .slice none n c => some (.l none n (.k c))
  | .nilFunc => some .nf
  | .nilIface => some .ni
  | _ => none
theorem cOf_ok {r : Nm} {v : Value} {c : C} (h : cOf v = some c) : CR r c v := by
  unfold cOf at h
  split at h <;> (try (injection h with h; subst h)) <;> first | exact .b _ | exact .i _ _ | exact .s _ | exact .p0 | exact .l0 _ _ | exact .nf | exact .ni | cases h
def csOf : List Value → Option (List C)
  | [] => some []
  | v :: vs => match cOf v, csOf vs with
    | some c, some cs => some (c :: cs)
    | _, _ => none
theorem csOf_ok {r : Nm} : ∀ {vs : List Value} {cs : List C}, csOf vs = some cs → CsR r cs vs
  | [], cs, h => by injection h with h; subst h; exact .nil
  | v :: vs, cs, h => by
    unfold csOf at h
    split at h
    · rename_i c cs' h1 h2
      injection h with h
      subst h
      exact .cons (cOf_ok h1) (csOf_ok h2)
    · cases h
def wOf : Value → Option Wv
  | .agg cs => (csOf cs.toList).map .a
  | v => (cOf v).map .c
theorem wOf_ok {r : Nm} {v : Value} {x : Wv} (h : wOf v = some x) : WR r x v := by
  unfold wOf at h
  split at h
  · rename_i cs
    cases hc : csOf cs.toList with
    | none => rw [hc] at h; cases h
    | some l =>
      rw [hc] at h
      injection h with h
      subst h
      have := WR.a (csOf_ok (r := r) hc)
      simpa using this
  · cases hc : cOf v with
    | none => rw [hc] at h; cases h
    | some l =>
      rw [hc] at h
      injection h with h
      subst h
      exact .c (cOf_ok hc)
def vOf : Value → Option V
  | .tuple vs => if vs.size = 0 then some (.t []) else none
  | v => (wOf v).map .w
theorem vOf_ok {r : Nm} {v : Value} {x : V} (h : vOf v = some x) : VR r x v := by
  unfold vOf at h
  split at h
  · rename_i vs
    split at h
    · rename_i hz
      injection h with h
      subst h
      have : vs = #[] := Array.eq_empty_of_size_eq_zero hz
      subst this
      exact .t .nil
    · cases h
  · cases hc : wOf v with
    | none => rw [hc] at h; cases h
    | some l =>
      rw [hc] at h
      injection h with h
      subst h
      exact .w (wOf_ok hc)
/-! ### Operands -/
def evO (tm : Tr V) : Operand → Option V
  | .tmp t => tm.get t
  | .const v => vOf v
  | .func f => some (.w (.c (.f f [] [])))
  | .global _ => none
/-- a frame -/
structure RelA (r : Nm) (tm : Tr V) (n : Nat) (a : Act) : Prop where
  size : a.tmps.size = n
  defers : a.defers = []
  val : ∀ i v, tm.get i = some v → ∃ u, a.tmps[i]? = some u ∧ VR r v u
theorem evO_ok {r : Nm} {tm : Tr V} {n : Nat} {a : Act} (h : RelA r tm n a) {x : Operand} {v : V} (e : evO tm x = some v) : VR r v (a.eval x) := by
  cases x with
  | tmp t =>
    obtain ⟨u, h1, h2⟩ := h.val t v e
    show VR r v (a.tmps.getD t undef)
    rw [Array.getD_eq_getD_getElem?, h1]
    exact h2
  | const u => exact vOf_ok e
  | func f =>
    injection e with e
    subst e
    exact .w (.c (.f f .nil .nil))
  | global g => cases e
theorem RelA.mono {r s : Nm} {tm : Tr V} {n : Nat} {a : Act} (h : RelA r tm n a) (k : r.le s) : RelA s tm n a :=
  ⟨h.size, h.defers, fun i v e => by obtain ⟨u, h1, h2⟩ := h.val i v e; exact ⟨u, h1, h2.mono k⟩⟩
theorem RelA.put {r : Nm} {tm : Tr V} {n : Nat} {a : Act} (h : RelA r tm n a) {d : Nat} (hd : d < n) {v : V} {u : Value} (hv : VR r v u) : RelA r (tm.set d v) n (a.put (some d) u) := by
  refine ⟨by simp [Act.put, h.size], h.defers, fun i x hx => ?_⟩
  rw [Tr.get_set] at hx
  show ∃ y, (a.tmps.setIfInBounds d u)[i]? = some y ∧ VR r x y
  by_cases e : i = d
  · subst e
    rw [if_pos rfl] at hx
    injection hx with hx
    subst hx
    exact ⟨u, by simp [h.size, hd], hv⟩
  · rw [if_neg e] at hx
    obtain ⟨y, h1, h2⟩ := h.val i x hx
    exact ⟨y, by rw [Array.getElem?_setIfInBounds_ne (fun e' => e e'.symm)]; exact h1, h2⟩
theorem RelA.lose {r : Nm} {tm : Tr V} {n : Nat} {a : Act} (h : RelA r tm n a) (d : Nat) (u : Value) : RelA r (tm.del d) n (a.put (some d) u) := by
  refine ⟨by simp [Act.put, h.size], h.defers, fun i x hx => ?_⟩
  rw [Tr.get_del] at hx
  show ∃ y, (a.tmps.setIfInBounds d u)[i]? = some y ∧ VR r x y
  by_cases e : i = d
  · rw [if_pos e] at hx; cases hx
  · rw [if_neg e] at hx
    obtain ⟨y, h1, h2⟩ := h.val i x hx
    exact ⟨y, by rw [Array.getElem?_setIfInBounds_ne (fun e' => e e'.symm)]; exact h1, h2⟩
/-! ### Types -/
def szOf (P : Program) (t : TypeId) : Option Nat := (P.info? t).map (·.size)
def aggB (P : Program) (t : TypeId) : Option Bool := match P.underlying t with
  | some (.struct _) => some true
  | some (.array _ _) => some true
  | some _ => some false
  | none => none
theorem run_szOf {P : Program} {t : TypeId} {n : Nat} (h : szOf P t = some n) (w : World) : (sizeOf t).run P w = .ok n w := by
  unfold szOf at h
  cases hi : P.info? t with
  | none => rw [hi] at h; cases h
  | some i =>
    rw [hi] at h
    injection h with h
    subst h
    simp [sizeOf, typeInfo, hi, go_sem]
theorem run_aggB {P : Program} {t : TypeId} {b : Bool} (h : aggB P t = some b) (w : World) : (isAgg t).run P w = .ok b w := by
  unfold aggB at h
  cases hu : P.underlying t with
  | none => rw [hu] at h; cases h
  | some d =>
    rw [hu] at h
    have := run_underlying hu w
    cases d <;> simp at h <;> subst h <;> simp [isAgg, go_sem, this]
theorem CsR.length {r : Nm} {cs : List C} {vs : List Value} (h : CsR r cs vs) : vs.length = cs.length := by
  induction h with
  | nil => rfl
  | cons _ _ ih => simp [ih]
theorem CsR.get {r : Nm} {cs : List C} {vs : List Value} (h : CsR r cs vs) : ∀ (i : Nat) (c : C), cs[i]? = some c → ∃ v, vs[i]? = some v ∧ CR r c v := by
  induction h with
  | nil => intro i c h; simp at h
  | cons h t ih =>
    intro i c hc
    cases i with
    | zero => simp at hc; subst hc; exact ⟨_, rfl, h⟩
    | succ i => simpa using ih i c (by simpa using hc)
theorem CsR.drop {r : Nm} {cs : List C} {vs : List Value} (h : CsR r cs vs) : ∀ n, CsR r (cs.drop n) (vs.drop n) := by
  induction h with
  | nil => intro n; simp; exact .nil
  | cons h t ih =>
    intro n
    cases n with
    | zero => exact .cons h t
    | succ n => simpa using ih n
theorem CsR.take {r : Nm} {cs : List C} {vs : List Value} (h : CsR r cs vs) : ∀ n, CsR r (cs.take n) (vs.take n) := by
  induction h with
  | nil => intro n; simp; exact .nil
  | cons h t ih =>
    intro n
    cases n with
    | zero => exact .nil
    | succ n => simpa using .cons h (ih n)
theorem CsR.append {r : Nm} {cs ds : List C} {vs us : List Value} (h : CsR r cs vs) (k : CsR r ds us) : CsR r (cs ++ ds) (vs ++ us) := by
  induction h with
  | nil => exact k
  | cons h t ih => exact .cons h ih
/-- a part of a struct's or an array's cells -/
def partC (P : Program) (t : TypeId) (cs : List C) (off : Nat) : Option Wv := match aggB P t, szOf P t with
  | some true, some n => some (.a ((cs.drop off).take n))
  | some false, some _ => (cs[off]?).map .c
  | _, _ => none
theorem partC_ok {P : Program} {r : Nm} {t : TypeId} {cs : List C} {vs : List Value} {off : Nat} {x : Wv} (h : CsR r cs vs) (e : partC P t cs off = some x) :
    ∃ u, WR r x u ∧ ∀ w, (part t vs.toArray off).run P w = .ok u w := by
  unfold partC at e
  split at e
  · rename_i n h1 h2
    injection e with e
    subst e
    refine ⟨_, .a ((h.drop off).take n), fun w => ?_⟩
    have e1 := run_aggB h1 w
    have e2 := run_szOf h2 w
    simp [part, go_sem, e1, e2, List.extract_eq_take_drop]
  · rename_i n h1 h2
    cases hc : cs[off]? with
    | none => rw [hc] at e; cases e
    | some c =>
      rw [hc] at e
      injection e with e
      subst e
      obtain ⟨v, hv, hr⟩ := h.get off c hc
      refine ⟨v, .c hr, fun w => ?_⟩
      have e1 := run_aggB h1 w
      simp [part, go_sem, e1, hv]
  · cases e
end Go.Proofs.YtgilghiegfgjeaaGreatDoor
end
