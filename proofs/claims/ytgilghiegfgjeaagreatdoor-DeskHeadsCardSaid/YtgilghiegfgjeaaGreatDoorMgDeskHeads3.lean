/- Joined: Base, Dk1, Dk2, Dk5, Turn, Lna1, Lna2, Dt2, Lp48. -/
import Derived.WalkKit
import Derived.WalkSpells
import Derived.WalkLawsBesides
import Derived.ProofKit
import Derived.Below
import Derived.Outline
import Derived.Lib.Hide
import Derived.Deep.QuietTactic
import Derived.BigQuiet
import Derived.Deep.Draws
import Derived.Calls
import Derived.RowKit
import Derived.Tactics
import Derived.Test.YtgilghiegfgjeaaGreatDoorRows
import Derived.RegionCalls
import Derived.Laws.Strings
import Derived.WideShapes
import Derived.Laws.Strings3
import Derived.Shelf.Strings.Prefix
section
set_option linter.unusedVariables false
set_option linter.unusedSimpArgs false
/-
  Words for memory that my walks share: a slice that reads as a list of elements (RdL), a call that only reads (Qt), small laws on the two. No program in sight.
-/
namespace Go.Proofs.YtgilghiegfgjeaaGreatDoor
open Go.RowKit

/-- The slice value v reads as the list l in w: sz cells an element, by enc. -/
def RdL {α : Type} (w : World) (v : Value) (sz : Nat) (enc : α → List Value) (l : List α) : Prop :=
  ∃ A cap, v = .slice A l.length cap ∧ l.length ≤ cap ∧ l.length ≤ 140737488355328 ∧
    (0 < l.length → ∃ b off, A = some ⟨b, off, none⟩ ∧ b < w.heap.size ∧ ∀ i x, l[i]? = some x → ∀ j u, (enc x)[j]? = some u → w.cell? ⟨b, off + i * sz + j, none⟩ = some u)

section
variable {α : Type} {w w' : World} {v : Value} {sz : Nat} {enc : α → List Value} {l : List α}
theorem RdL.keep (h : RdL w v sz enc l) (hs : w.heap.size ≤ w'.heap.size) (hk : ∀ p : Addr, p.block < w.heap.size → w'.cell? p = w.cell? p) : RdL w' v sz enc l := by
  obtain ⟨A, cap, h1, h2, h3, h4⟩ := h
  refine ⟨A, cap, h1, h2, h3, fun hn => ?_⟩
  obtain ⟨b, off, e, hb, hc⟩ := h4 hn
  exact ⟨b, off, e, by omega, fun i x hx j u hu => (hk _ hb).trans (hc i x hx j u hu)⟩
theorem RdL.below (h : RdL w v sz enc l) {B : Nat} (hb : Below B w w') (hB : w.heap.size ≤ B) : RdL w' v sz enc l :=
  h.keep hb.size fun p hp => hb.cell (by omega)
theorem RdL.alloc (h : RdL w v sz enc l) (o : Obj) : RdL (w.alloc o) v sz enc l := h.keep (by simp) fun p hp => World.cell?_alloc_lt w o p hp
theorem RdL.setCell (h : RdL w v sz enc l) {B : Nat} (hb : ∀ b off cap, v = .slice (some ⟨b, off, none⟩) l.length cap → b < B) {p : Addr} (hp : B ≤ p.block) (u : Value) : RdL (w.setCell p u) v sz enc l := by
  obtain ⟨A, cap, h1, h2, h3, h4⟩ := h
  refine ⟨A, cap, h1, h2, h3, fun hn => ?_⟩
  obtain ⟨b, off, e, hbb, hc⟩ := h4 hn
  have hlt : b < B := hb b off cap (by rw [h1, e])
  exact ⟨b, off, e, by simpa [World.setCell] using hbb, fun i x hx j u' hu => (World.cell?_setCell_other w p _ u (fun e => by subst e; simp at hp; omega)).trans (hc i x hx j u' hu)⟩
theorem RdL.nil : RdL w (.slice none 0 0) sz enc [] := ⟨none, 0, rfl, by simp, by simp, by simp⟩
end

/-- the cells of a list of elements, one behind the other -/
theorem getElem?_flatMap {α : Type} (enc : α → List Value) (sz : Nat) (hs : ∀ x, (enc x).length = sz) (l : List α) :
    ∀ i x j u, l[i]? = some x → (enc x)[j]? = some u → (l.flatMap enc)[i * sz + j]? = some u := by
  induction l with
  | nil => intro i x j u h; simp at h
  | cons a l ih =>
    intro i x j u h hu
    have hj : j < sz := by have := (List.getElem?_eq_some_iff.1 hu).1; rw [hs] at this; exact this
    cases i with
    | zero =>
      simp at h; subst h
      rw [List.flatMap_cons, List.getElem?_append_left (by rw [hs]; omega)]
      simpa using hu
    | succ i =>
      rw [List.flatMap_cons, List.getElem?_append_right (by rw [hs, Nat.succ_mul]; omega), hs]
      have : (i + 1) * sz + j - sz = i * sz + j := by rw [Nat.succ_mul]; omega
      rw [this]
      exact ih i x j u (by simpa using h) hu
/-- what a call owns reads as a list -/
theorem RdL.of_own {α : Type} {w : World} {base : Nat} {e : TypeId} {sz : Nat} {v : Value} {n : Nat} {enc : α → List Value} {l : List α} (hs : ∀ x, (enc x).length = sz)
    (hn : n = l.length) (hcap : l.length ≤ 140737488355328) (h : w.ownsRow base e sz v n (l.flatMap enc)) : RdL w v sz enc l := by
  subst hn
  rcases h.2 with ⟨rfl, h0⟩ | ⟨g, cap, cur, rfl, hb, hg, hnc, hcm, hcs, ht⟩
  · have : l = [] := List.eq_nil_of_length_eq_zero h0
    subst this
    exact RdL.nil
  · refine ⟨some ⟨g, 0, none⟩, cap, rfl, hnc, hcap, fun _ => ⟨g, 0, rfl, (Array.getElem?_eq_some_iff.1 hg).1, ?_⟩⟩
    intro i x hx j u hu
    have hc := h.cells (g := g) rfl (i * sz + j) u (getElem?_flatMap enc sz hs l i x j u hx hu)
    have hadd : (⟨g, 0, none⟩ : Addr).add (i * sz + j) = ⟨g, 0 + i * sz + j, none⟩ := by
      unfold Addr.add; split <;> simp_all
    rw [hadd] at hc
    exact hc
theorem getElem?_lt {α : Type} {l : List α} {k : Nat} (h : k < l.length) : ∃ x, l[k]? = some x := ⟨l[k], List.getElem?_eq_getElem h⟩
theorem take_succ_of {α : Type} {l : List α} {k : Nat} {x : α} (h : l[k]? = some x) : l.take (k + 1) = l.take k ++ [x] := by
  rw [List.take_add_one, h]; rfl
def encI (z : Int) : List Value := [.int .i64 z]
theorem encI_len (z : Int) : (encI z).length = 1 := rfl
/-- a block known whole -/
def Blk (w : World) (g : Nat) (t : TypeId) (cs : Array Value) : Prop := w.heap[g]? = some (.cells cs t (0, 0))
section
variable {w w' : World} {g : Nat} {t : TypeId} {cs : Array Value}
theorem Blk.lt (h : Blk w g t cs) : g < w.heap.size := lt_of_block h
theorem Blk.cell (h : Blk w g t cs) (i : Nat) : w.cell? ⟨g, i, none⟩ = cs[i]? := cell_of_row w g i cs t (0, 0) h
theorem Blk.free (h : Blk w g t cs) (i : Nat) : w.frozen? ⟨g, i, none⟩ = false := by unfold Blk at h; simp [World.frozen?, h]
theorem Blk.new (w : World) (t : TypeId) (cs : Array Value) : Blk (w.alloc (.cells cs t)) w.heap.size t cs := heap_alloc_new w _
theorem Blk.drew (h : Blk w g t cs) : Blk w.drew g t cs := h
theorem Blk.alloc (h : Blk w g t cs) (o : Obj) : Blk (w.alloc o) g t cs := (Below.heap_alloc w o g h.lt).trans h
theorem Blk.set_ (h : Blk w g t cs) (i : Nat) (u : Value) : Blk (w.setCell ⟨g, i, none⟩ u) g t (cs.setIfInBounds i u) := by
  unfold Blk at h ⊢
  simp [World.setCell, Array.getElem?_modify, h]
theorem Blk.below {B : Nat} (h : Blk w g t cs) (hb : Below B w w') (hg : g < B) : Blk w' g t cs := (hb.block g hg).trans h
theorem Blk.grown {row : Option Nat} (h : Blk w g t cs) (hb : w.grownBy w' row) (hg : some g ≠ row) : Blk w' g t cs := (hb.block g h.lt hg).trans h
end
theorem own_form {w : World} {base : Nat} {e : TypeId} {sz : Nat} {v : Value} {n : Nat} {xs : List Value} (h : w.ownsRow base e sz v n xs) : ∃ A c, v = .slice A n c := by
  rcases h.2 with ⟨rfl, rfl⟩ | ⟨g, cap, cur, rfl, _⟩
  · exact ⟨_, _, rfl⟩
  · exact ⟨_, _, rfl⟩
end Go.Proofs.YtgilghiegfgjeaaGreatDoor
end
section
set_option linter.unusedVariables false
set_option linter.unusedSimpArgs false
/- Numbers as texts: digits, plainly. -/
namespace Go.Proofs.YtgilghiegfgjeaaGreatDoor.Dk
set_option linter.unusedVariables false

def digs (n : Nat) : List UInt8 := if h : n < 10 then [UInt8.ofNat (48 + n)] else digs (n / 10) ++ [UInt8.ofNat (48 + n % 10)]
termination_by n
decreasing_by omega
def val (l : List UInt8) : Nat := l.foldl (fun a b => 10 * a + (b.toNat - 48)) 0
def IsD (b : UInt8) : Prop := 48 ≤ b.toNat ∧ b.toNat ≤ 57
instance (b : UInt8) : Decidable (IsD b) := inferInstanceAs (Decidable (_ ∧ _))
/-- a number's text -/
def txt (z : Int) : List UInt8 := if z < 0 then 45 :: digs z.natAbs else digs z.natAbs

theorem digs_small {n : Nat} (h : n < 10) : digs n = [UInt8.ofNat (48 + n)] := by rw [digs, dif_pos h]
theorem digs_big {n : Nat} (h : ¬ n < 10) : digs n = digs (n / 10) ++ [UInt8.ofNat (48 + n % 10)] := by rw [digs, dif_neg h]
theorem ofNat_toNat {n : Nat} (h : n < 256) : (UInt8.ofNat n).toNat = n := by
  rw [UInt8.toNat_ofNat']; omega
theorem ofNat_of {b : UInt8} {n : Nat} (h : n = b.toNat) : UInt8.ofNat n = b := by
  subst h; exact UInt8.ofNat_toNat
theorem val_snoc (l : List UInt8) (b : UInt8) : val (l ++ [b]) = 10 * val l + (b.toNat - 48) := by
  simp [val, List.foldl_append]
theorem val_nil : val [] = 0 := rfl
theorem val_one (b : UInt8) : val [b] = b.toNat - 48 := by simp [val]
theorem digs_ne (n : Nat) : digs n ≠ [] := by
  by_cases h : n < 10
  · rw [digs_small h]; simp
  · rw [digs_big h]; simp
theorem val_digs (n : Nat) : val (digs n) = n := by
  induction n using Nat.strongRecOn with
  | ind n ih =>
    by_cases h : n < 10
    · rw [digs_small h, val_one, ofNat_toNat (by omega)]; omega
    · rw [digs_big h, val_snoc, ih (n / 10) (by omega), ofNat_toNat (by omega)]; omega
theorem digs_isD (n : Nat) : ∀ b ∈ digs n, IsD b := by
  induction n using Nat.strongRecOn with
  | ind n ih =>
    by_cases h : n < 10
    · rw [digs_small h]
      intro b hb
      simp only [List.mem_singleton] at hb
      subst hb
      unfold IsD
      rw [ofNat_toNat (by omega)]; omega
    · rw [digs_big h]
      intro b hb
      rw [List.mem_append, List.mem_singleton] at hb
      rcases hb with hb | rfl
      · exact ih _ (by omega) b hb
      · unfold IsD
        rw [ofNat_toNat (by omega)]; omega
theorem head_append {l m : List UInt8} (h : l ≠ []) : (l ++ m).head? = l.head? := by
  cases l with
  | nil => exact absurd rfl h
  | cons a l => rfl
theorem digs_head (n : Nat) (h0 : n ≠ 0) : (digs n).head? ≠ some 48 := by
  induction n using Nat.strongRecOn with
  | ind n ih =>
    by_cases h : n < 10
    · rw [digs_small h]
      intro e
      simp only [List.head?_cons, Option.some.injEq] at e
      have := congrArg UInt8.toNat e
      rw [ofNat_toNat (by omega)] at this
      have h48 : (48 : UInt8).toNat = 48 := rfl
      omega
    · rw [digs_big h, head_append (digs_ne _)]
      exact ih _ (by omega) (by omega)
theorem digs_zero : digs 0 = [48] := by rw [digs_small (by omega)]; rfl
theorem digs_val (l : List UInt8) (hn : l ≠ []) (hd : ∀ b ∈ l, IsD b) (hh : l.head? = some 48 → l = [48]) : digs (val l) = l := by
  generalize hk : l.length = k
  induction k generalizing l with
  | zero => exact absurd (List.length_eq_zero_iff.mp hk) hn
  | succ k ih =>
    rcases List.eq_nil_or_concat l with h | ⟨t, b, h⟩
    · exact absurd h hn
    · rw [List.concat_eq_append] at h
      subst h
      have hb := hd b (by simp)
      unfold IsD at hb
      rw [val_snoc]
      by_cases ht : t = []
      · subst ht
        rw [val_nil, digs_small (by omega)]
        show [_] = [b]
        rw [ofNat_of (b := b) (by omega)]
      · have hh' : t.head? ≠ some 48 := by
          intro e
          have := hh (by rw [head_append ht]; exact e)
          have hl := congrArg List.length this
          rw [List.length_append] at hl
          have : t.length ≠ 0 := fun e => ht (List.length_eq_zero_iff.mp e)
          simp at hl
          exact ht hl
        have iht := ih t ht (fun c hc => hd c (by simp [hc])) (fun e => absurd e hh') (by simpa using hk)
        have hv : val t ≠ 0 := by
          intro e
          rw [e, digs_zero] at iht
          rw [← iht] at hh'
          exact hh' rfl
        rw [digs_big (by omega), show (10 * val t + (b.toNat - 48)) / 10 = val t by omega, iht, show 48 + (10 * val t + (b.toNat - 48)) % 10 = b.toNat by omega, ofNat_of rfl]
theorem digs_len (k : Nat) : ∀ n, n < 10 ^ (k + 1) → (digs n).length ≤ k + 1 := by
  induction k with
  | zero => intro n h; rw [digs_small (by simpa using h)]; simp
  | succ k ih =>
    intro n h
    by_cases h' : n < 10
    · rw [digs_small h']; simp
    · rw [digs_big h', List.length_append]
      have := ih (n / 10) (by rw [Nat.div_lt_iff_lt_mul (by omega), ← Nat.pow_succ]; exact h)
      simp; omega
theorem txt_ne (z : Int) : txt z ≠ [] := by
  unfold txt; split
  · simp
  · exact digs_ne _
theorem not45 {b : UInt8} (h : IsD b) : b ≠ 45 := by
  intro e; subst e; unfold IsD at h
  have : (45 : UInt8).toNat = 45 := rfl
  omega
theorem txt_inj {y z : Int} (h : txt y = txt z) : y = z := by
  unfold txt at h
  have key : ∀ (n : Nat) (l : List UInt8), digs n ≠ 45 :: l := fun n l e => not45 (digs_isD n 45 (by rw [e]; simp)) rfl
  split at h <;> split at h
  · injection h with _ h
    have := congrArg val h
    rw [val_digs, val_digs] at this
    omega
  · exact absurd h.symm (key _ _)
  · exact absurd h (key _ _)
  · have := congrArg val h
    rw [val_digs, val_digs] at this
    omega
def inR (z : Int) : Prop := -9223372036854775808 ≤ z ∧ z ≤ 9223372036854775807
instance (z : Int) : Decidable (inR z) := inferInstanceAs (Decidable (_ ∧ _))
theorem txt_len {z : Int} (h : inR z) : (txt z).length ≤ 20 := by
  unfold inR at h
  have e : 10 ^ (18 + 1) = 10000000000000000000 := by decide
  have := digs_len 18 z.natAbs (by omega)
  unfold txt; split
  · simp; omega
  · omega
/-- the number of a text that is a number's -/
noncomputable def parse (l : List UInt8) : Option Int := by
  classical exact if h : ∃ z, inR z ∧ l = txt z then some h.choose else none
theorem parse_txt {z : Int} (h : inR z) : parse (txt z) = some z := by
  unfold parse
  have hx : ∃ y, inR y ∧ txt z = txt y := ⟨z, h, rfl⟩
  rw [dif_pos hx]
  exact congrArg some (txt_inj hx.choose_spec.2).symm
theorem parse_none {l : List UInt8} (h : ∀ z, inR z → l ≠ txt z) : parse l = none := by
  unfold parse
  rw [dif_neg]
  rintro ⟨z, h1, h2⟩
  exact h z h1 h2
/-- a text of digits: what it is -/
theorem parse_digits {l : List UInt8} (hn : l ≠ []) (hd : ∀ b ∈ l, IsD b) : parse l = if (l.head? = some 48 ∧ l ≠ [48]) ∨ ¬ inR (val l) then none else some (val l : Int) := by
  split
  · rename_i h
    refine parse_none fun z hz e => ?_
    subst e
    by_cases hz0 : z < 0
    · rw [txt, if_pos hz0] at hd
      exact not45 (hd 45 (by simp)) rfl
    · rw [txt, if_neg hz0] at h
      rw [val_digs] at h
      rcases h with ⟨h1, h2⟩ | h
      · by_cases h0 : z.natAbs = 0
        · rw [h0, digs_zero] at h2; exact h2 rfl
        · exact digs_head _ h0 h1
      · unfold inR at h hz; omega
  · rename_i h
    rw [not_or, Classical.not_not] at h
    have e : l = txt (val l : Int) := by
      rw [txt, if_neg (by omega)]
      rw [Int.natAbs_natCast, digs_val l hn hd]
      intro h48
      exact Classical.byContradiction fun c => h.1 ⟨h48, c⟩
    calc parse l = parse (txt (val l : Int)) := by rw [← e]
      _ = _ := parse_txt h.2
theorem parse_minus {l : List UInt8} (hn : l ≠ []) (hd : ∀ b ∈ l, IsD b) : parse (45 :: l) = if l.head? = some 48 ∨ ¬ inR (-(val l : Int)) then none else some (-(val l : Int)) := by
  split
  · rename_i h
    refine parse_none fun z hz e => ?_
    by_cases hz0 : z < 0
    · rw [txt, if_pos hz0] at e
      injection e with _ e
      subst e
      rw [val_digs] at h
      rcases h with h | h
      · exact digs_head _ (by omega) h
      · unfold inR at h hz; omega
    · rw [txt, if_neg hz0] at e
      exact not45 (digs_isD z.natAbs 45 (by rw [← e]; simp)) rfl
  · rename_i h
    rw [not_or, Classical.not_not] at h
    have hv : val l ≠ 0 := by
      intro e
      have := digs_val l hn hd (fun e => absurd e h.1)
      rw [e, digs_zero] at this
      rw [← this] at h
      exact h.1 rfl
    have e : 45 :: l = txt (-(val l : Int)) := by
      rw [txt, if_pos (by omega), Int.natAbs_neg, Int.natAbs_natCast, digs_val l hn hd (fun e => absurd e h.1)]
    calc parse (45 :: l) = parse (txt (-(val l : Int))) := by rw [← e]
      _ = _ := parse_txt h.2
theorem parse_nil : parse [] = none := parse_none fun z _ e => txt_ne z e.symm
theorem parse_bad {l : List UInt8} (h : ∃ b ∈ l, ¬ IsD b) (h45 : l.head? ≠ some 45) : parse l = none := by
  refine parse_none fun z _ e => ?_
  subst e
  unfold txt at h h45
  split at h
  · rename_i hz; rw [if_pos hz] at h45; exact h45 rfl
  · obtain ⟨b, h1, h2⟩ := h; exact h2 (digs_isD _ b h1)
theorem parse_bad_minus {l : List UInt8} (h : l = [] ∨ ∃ b ∈ l, ¬ IsD b) : parse (45 :: l) = none := by
  refine parse_none fun z _ e => ?_
  unfold txt at e
  split at e
  · injection e with _ e
    subst e
    rcases h with h | ⟨b, h1, h2⟩
    · exact digs_ne _ h
    · exact h2 (digs_isD _ b h1)
  · exact not45 (digs_isD z.natAbs 45 (by rw [← e]; simp)) rfl
end Go.Proofs.YtgilghiegfgjeaaGreatDoor.Dk
end
section
set_option linter.unusedVariables false
set_option linter.unusedSimpArgs false
/- Numbers as texts: the loops' plain steps. -/
namespace Go.Proofs.YtgilghiegfgjeaaGreatDoor.Dk
open Go.RowKit
set_option linter.unusedVariables false

theorem val_take_succ {l : List UInt8} {i : Nat} (h : i < l.length) : val (l.take (i + 1)) = 10 * val (l.take i) + (l[i].toNat - 48) := by
  rw [List.take_add_one, List.getElem?_eq_getElem h]
  exact val_snoc _ _
theorem val_grow (l m : List UInt8) : val l ≤ val (l ++ m) := by
  generalize hk : m.length = k
  induction k generalizing m with
  | zero => rw [List.length_eq_zero_iff.mp hk]; simp
  | succ k ih =>
    rcases List.eq_nil_or_concat m with h | ⟨t, b, h⟩
    · subst h; simp
    · rw [List.concat_eq_append] at h
      subst h
      rw [← List.append_assoc, val_snoc]
      have := ih t (by simpa using hk)
      omega
theorem val_take_le (l : List UInt8) (i : Nat) : val (l.take i) ≤ val l := by
  have := val_grow (l.take i) (l.drop i)
  rwa [List.take_append_drop] at this
/-- dec.next, upwards -/
theorem next_up {n d : Int} (hn : 0 ≤ n) (hd : 0 ≤ d ∧ d ≤ 9) : (9223372036854775807 - d).tdiv 10 < n ↔ ¬ n * 10 + d ≤ 9223372036854775807 := by
  rw [Int.tdiv_eq_ediv_of_nonneg (by omega)]
  omega
/-- dec.next, downwards -/
theorem next_down {n d : Int} (hn : n ≤ 0) (hd : 0 ≤ d ∧ d ≤ 9) : n < (-9223372036854775808 + d).tdiv 10 ↔ ¬ -9223372036854775808 ≤ n * 10 - d := by
  have e : (-9223372036854775808 + d).tdiv 10 = -((9223372036854775808 - d) / 10) := by
    rw [show -9223372036854775808 + d = -(9223372036854775808 - d) by omega, Int.neg_tdiv, Int.tdiv_eq_ediv_of_nonneg (by omega)]
  rw [e]
  omega
/-- a number's last digit, and what is left -/
theorem digs_step {z : Int} : digs z.natAbs = (if z.tdiv 10 = 0 then [] else digs (z.tdiv 10).natAbs) ++ [UInt8.ofNat (48 + (z.tmod 10).natAbs)] := by
  have h1 : (z.tdiv 10).natAbs = z.natAbs / 10 := by rw [Int.natAbs_tdiv]; rfl
  have h2 : (z.tmod 10).natAbs = z.natAbs % 10 := by rw [Int.natAbs_tmod]; rfl
  have h3 : z.tdiv 10 = 0 ↔ z.natAbs / 10 = 0 := by rw [← h1]; omega
  by_cases h : z.natAbs < 10
  · rw [if_pos (h3.mpr (by omega)), digs_small h, h2, Nat.mod_eq_of_lt h]; rfl
  · rw [if_neg (fun e => by have := h3.mp e; omega), digs_big h, h1, h2]
/-- the document's reading: a wrapped number whose text it is -/
theorem parse_wrap {l : List UInt8} (hn : l ≠ []) (hd : ∀ b ∈ l, IsD b) : parse l = if txt (wrap64 (val l)) = l then some (wrap64 (val l)) else none := by
  have hr : inR (wrap64 (val l)) := by unfold inR wrap64; omega
  split
  · rename_i h
    calc parse l = parse (txt (wrap64 (val l))) := by rw [h]
      _ = _ := parse_txt hr
  · rename_i h
    refine parse_none fun z hz e => h ?_
    have hz0 : ¬ z < 0 := by
      intro hz0
      rw [txt, if_pos hz0] at e
      exact not45 (hd 45 (by rw [e]; simp)) rfl
    have hv : (val l : Int) = z := by rw [e, txt, if_neg hz0, val_digs]; omega
    have hw : wrap64 z = z := by unfold inR at hz; unfold wrap64; omega
    rw [hv, hw, e]
theorem parse_wrap_minus {l : List UInt8} (hn : l ≠ []) (hd : ∀ b ∈ l, IsD b) : parse (45 :: l) = if txt (wrap64 (-(val l : Int))) = 45 :: l then some (wrap64 (-(val l : Int))) else none := by
  have hr : inR (wrap64 (-(val l : Int))) := by unfold inR wrap64; omega
  split
  · rename_i h
    calc parse (45 :: l) = parse (txt (wrap64 (-(val l : Int)))) := by rw [h]
      _ = _ := parse_txt hr
  · rename_i h
    refine parse_none fun z hz e => h ?_
    have hz0 : z < 0 := by
      apply Classical.byContradiction
      intro hz0
      rw [txt, if_neg hz0] at e
      exact not45 (digs_isD z.natAbs 45 (by rw [← e]; simp)) rfl
    have hl : l = digs z.natAbs := by
      rw [txt, if_pos hz0] at e
      injection e
    have hv : -(val l : Int) = z := by rw [hl, val_digs]; omega
    have hw : wrap64 z = z := by unfold inR at hz; unfold wrap64; omega
    rw [hv, hw, e]
/-- the document's Text, a call deeper -/
theorem txt_step {z : Int} (h : ¬ (-10 < z ∧ z < 10)) : txt z = txt (z.tdiv 10) ++ txt ((z.tmod 10).natAbs : Int) := by
  have h1 : (z.tdiv 10).natAbs = z.natAbs / 10 := by rw [Int.natAbs_tdiv]; rfl
  have h2 : (z.tmod 10).natAbs = z.natAbs % 10 := by rw [Int.natAbs_tmod]; rfl
  have hd : txt ((z.tmod 10).natAbs : Int) = [UInt8.ofNat (48 + z.natAbs % 10)] := by
    rw [txt, if_neg (by omega), Int.natAbs_natCast, h2, digs_small (by omega)]
  rw [hd]
  by_cases hz : z < 0
  · have : z.tdiv 10 < 0 := by
      have : z.tdiv 10 = -((-z) / 10) := by
        rw [show z = -(-z) by omega, Int.neg_tdiv, Int.tdiv_eq_ediv_of_nonneg (by omega), Int.neg_neg]
      omega
    rw [txt, if_pos hz, txt, if_pos this, h1, digs_big (by omega)]
    rfl
  · have : ¬ z.tdiv 10 < 0 := by
      rw [Int.tdiv_eq_ediv_of_nonneg (by omega)]; omega
    rw [txt, if_neg hz, txt, if_neg this, h1, digs_big (by omega)]
theorem txt_digit {z : Int} (h : 0 ≤ z ∧ z < 10) : txt z = [UInt8.ofNat (48 + z.natAbs)] := by
  rw [txt, if_neg (by omega), digs_small (by omega)]
theorem txt_neg_digit {z : Int} (h : -10 < z ∧ z < 0) : txt z = 45 :: txt (-z) := by
  rw [txt, if_pos h.2, txt, if_neg (by omega), Int.natAbs_neg]
end Go.Proofs.YtgilghiegfgjeaaGreatDoor.Dk
end
section
set_option linter.unusedVariables false
set_option linter.unusedSimpArgs false
/- A text's number out of its parts: a minus, the digits. -/
namespace Go.Proofs.YtgilghiegfgjeaaGreatDoor.Dk
open Go.RowKit
set_option linter.unusedVariables false

def num (below : Bool) (v : Nat) : Int := if below then -(v : Int) else v
/-- how many digits lead -/
structure Lead (ds : List UInt8) (k : Nat) : Prop where
  le : k ≤ ds.length
  on : ∀ (i : Nat) (b : UInt8), i < k → ds[i]? = some b → IsD b
  off : ∀ b, ds[k]? = some b → ¬ IsD b
theorem Lead.all {ds : List UInt8} {k : Nat} (h : Lead ds k) (e : k = ds.length) : ∀ b ∈ ds, IsD b := by
  intro b hb
  obtain ⟨i, hi, rfl⟩ := List.getElem_of_mem hb
  exact h.on i _ (by omega) (List.getElem?_eq_getElem hi)
theorem Lead.bad {ds : List UInt8} {k : Nat} (h : Lead ds k) (e : k ≠ ds.length) : ∃ b ∈ ds, ¬ IsD b := by
  have hk : k < ds.length := by have := h.le; omega
  exact ⟨ds[k], List.getElem_mem hk, h.off _ (List.getElem?_eq_getElem hk)⟩
def lineOf (below : Bool) (ds : List UInt8) : List UInt8 := if below then 45 :: ds else ds
theorem parse_parts {below : Bool} {ds : List UInt8} {k : Nat} (hb : below = false → ds.head? ≠ some 45) (h : Lead ds k) :
    parse (lineOf below ds) = if k = ds.length ∧ k ≠ 0 ∧ ¬ (ds.head? = some 48 ∧ (below = true ∨ k ≠ 1)) ∧ inR (num below (val ds)) then some (num below (val ds)) else none := by
  have hnil : ds = [] ↔ ds.length = 0 := List.length_eq_zero_iff.symm
  by_cases hk : k = ds.length
  · by_cases h0 : k = 0
    · have e : ds = [] := hnil.mpr (by omega)
      subst e
      rw [if_neg (by intro c; exact c.2.1 h0)]
      unfold lineOf
      split
      · exact parse_bad_minus (.inl rfl)
      · exact parse_nil
    · have hn : ds ≠ [] := fun e => h0 (by rw [hk]; exact hnil.mp e)
      have hd := h.all hk
      cases below with
      | true =>
        show parse (45 :: ds) = _
        rw [parse_minus hn hd]
        by_cases c : ds.head? = some 48 ∨ ¬ inR (-(val ds : Int))
        · rw [if_pos c, if_neg]
          rintro ⟨_, _, c1, c2⟩
          rcases c with c | c
          · exact c1 ⟨c, .inl rfl⟩
          · exact c c2
        · rw [if_neg c, if_pos]
          · rfl
          · rw [not_or, Classical.not_not] at c
            exact ⟨hk, h0, fun d => c.1 d.1, c.2⟩
      | false =>
        show parse ds = _
        rw [parse_digits hn hd]
        have e1 : ds.head? = some 48 → (ds ≠ [48] ↔ k ≠ 1) := by
          intro e
          cases ds with
          | nil => cases e
          | cons a t =>
            simp only [List.head?_cons, Option.some.injEq] at e
            subst e
            rw [hk]
            cases t <;> simp
        by_cases c : (ds.head? = some 48 ∧ ds ≠ [48]) ∨ ¬ inR (val ds)
        · rw [if_pos c, if_neg]
          rintro ⟨_, _, c1, c2⟩
          rcases c with ⟨c, d⟩ | c
          · exact c1 ⟨c, .inr ((e1 c).mp d)⟩
          · exact c c2
        · rw [if_neg c, if_pos]
          · rfl
          · rw [not_or, Classical.not_not] at c
            refine ⟨hk, h0, fun d => ?_, c.2⟩
            rcases d.2 with d2 | d2
            · cases d2
            · exact c.1 ⟨d.1, (e1 d.1).mpr d2⟩
  · rw [if_neg (fun c => hk c.1)]
    cases below with
    | true => exact parse_bad_minus (.inr (h.bad hk))
    | false => exact parse_bad (h.bad hk) (hb rfl)
/-- what dec.Take tells, for dec.Parse -/
def TakeIs (l : List UInt8) (n : Int) (many : Nat) : Prop := (∀ z, parse l = some z → n = z ∧ many = l.length ∧ many ≠ 0) ∧ (parse l = none → many = 0 ∨ many ≠ l.length)
section
variable {below : Bool} {ds : List UInt8} {k : Nat} (hb : below = false → ds.head? ≠ some 45) (h : Lead ds k)
include hb h
theorem take_zero (h0 : k = 0 ∨ (ds.head? = some 48 ∧ below = true)) (n : Int) : TakeIs (lineOf below ds) n 0 := by
  refine ⟨fun z hz => ?_, fun _ => .inl rfl⟩
  rw [parse_parts hb h] at hz
  split at hz
  · rename_i c
    rcases h0 with h0 | h0
    · exact absurd h0 c.2.1
    · exact absurd ⟨h0.1, .inl h0.2⟩ c.2.2.1
  · cases hz
theorem take_nought (h0 : ds.head? = some 48) (hbl : below = false) : TakeIs (lineOf below ds) 0 1 := by
  subst hbl
  have e : lineOf false ds = ds := rfl
  constructor
  · intro z hz
    rw [parse_parts hb h] at hz
    split at hz
    · rename_i c
      injection hz with hz
      have hk1 : k = 1 := Classical.byContradiction fun d => c.2.2.1 ⟨h0, .inr d⟩
      have hd : ds = [48] := by
        have hl : ds.length = 1 := by omega
        match ds, hl, h0 with
        | [a], _, h0 => simp only [List.head?_cons, Option.some.injEq] at h0; rw [h0]
      subst hd
      exact ⟨hz, rfl, by omega⟩
    · cases hz
  · intro hz
    right
    intro e1
    have hd : ds = [48] := by
      have hl : ds.length = 1 := e1.symm
      match ds, hl, h0 with
      | [a], _, h0 => simp only [List.head?_cons, Option.some.injEq] at h0; rw [h0]
    subst hd
    have : parse (txt 0) = some 0 := parse_txt (by decide)
    rw [show txt 0 = lineOf false [48] by rw [txt, if_neg (by omega)]; exact digs_zero] at this
    rw [hz] at this
    cases this
theorem take_over {i : Nat} (hi : i < k) (ho : ¬ inR (num below (val (ds.take (i + 1))))) (n : Int) : TakeIs (lineOf below ds) n ((if below then 1 else 0) + i) := by
  have hle := h.le
  have hv := val_take_le ds (i + 1)
  constructor
  · intro z hz
    rw [parse_parts hb h] at hz
    split at hz
    · rename_i c
      exfalso
      apply ho
      have c3 := c.2.2.2
      unfold inR num at *
      cases below <;> simp at c3 ⊢ <;> omega
    · cases hz
  · intro _
    right
    unfold lineOf
    cases below <;> simp <;> omega
theorem take_done (h0 : k ≠ 0) (h48 : ds.head? ≠ some 48) (hr : inR (num below (val (ds.take k)))) : TakeIs (lineOf below ds) (num below (val (ds.take k))) ((if below then 1 else 0) + k) := by
  have hle := h.le
  have hl : (lineOf below ds).length = (if below then 1 else 0) + ds.length := by
    unfold lineOf
    cases below <;> simp; omega
  constructor
  · intro z hz
    rw [parse_parts hb h] at hz
    split at hz
    · rename_i c
      injection hz with hz
      rw [hl, c.1, List.take_length]
      exact ⟨hz, rfl, by have := c.1; omega⟩
    · cases hz
  · intro hz
    right
    intro e
    have hk : k = ds.length := by rw [hl] at e; omega
    rw [hk, List.take_length] at hr
    rw [parse_parts hb h, if_pos ⟨hk, h0, fun c => h48 c.1, hr⟩] at hz
    cases hz
end
/-- the document's Parse: all are digits -/
theorem rparse_done {below : Bool} {ds : List UInt8} (hd : ∀ b ∈ ds, IsD b) : parse (lineOf below ds) = if txt (wrap64 (num below (val ds))) = lineOf below ds then some (wrap64 (num below (val ds))) else none := by
  by_cases hn : ds = []
  · subst hn
    cases below with
    | true =>
      rw [if_neg (by show ¬ txt (wrap64 0) = [45]; rw [show wrap64 0 = 0 by unfold wrap64; omega, txt, if_neg (by omega), show Int.natAbs 0 = 0 from rfl, digs_zero]; decide)]
      exact parse_bad_minus (.inl rfl)
    | false =>
      rw [if_neg (by exact fun e => txt_ne _ e)]
      exact parse_nil
  · cases below with
    | true => exact parse_wrap_minus hn hd
    | false => exact parse_wrap hn hd
theorem rparse_long {l : List UInt8} (h : 20 < l.length) : parse l = none := by
  refine parse_none fun z hz e => ?_
  have := txt_len hz
  rw [← e] at this
  omega
theorem rparse_digit {below : Bool} {ds : List UInt8} (hb : below = false → ds.head? ≠ some 45) (h : ∃ b ∈ ds, ¬ IsD b) : parse (lineOf below ds) = none := by
  cases below with
  | true => exact parse_bad_minus (.inr h)
  | false => exact parse_bad h (hb rfl)
theorem rstep_up {ds : List UInt8} {i : Nat} (hi : i < ds.length) (hd : IsD ds[i]) : wrap64 (wrap64 (wrap64 (num false (val (ds.take i))) * 10) + ((ds[i].toNat : Int) - 48)) = wrap64 (num false (val (ds.take (i + 1)))) := by
  rw [val_take_succ hi]
  unfold IsD at hd
  unfold num wrap64
  simp only [Bool.false_eq_true, if_false]
  omega
theorem rstep_down {ds : List UInt8} {i : Nat} (hi : i < ds.length) (hd : IsD ds[i]) : wrap64 (wrap64 (wrap64 (num true (val (ds.take i))) * 10) - ((ds[i].toNat : Int) - 48)) = wrap64 (num true (val (ds.take (i + 1)))) := by
  rw [val_take_succ hi]
  unfold IsD at hd
  unfold num wrap64
  simp only [if_true]
  omega
/-- dec.Take's loop, a step within the range -/
theorem tstep {below : Bool} {ds : List UInt8} {i : Nat} (hi : i < ds.length) (hd : IsD ds[i]) : num below (val (ds.take (i + 1))) = if below then num below (val (ds.take i)) * 10 - ((ds[i].toNat : Int) - 48) else num below (val (ds.take i)) * 10 + ((ds[i].toNat : Int) - 48) := by
  rw [val_take_succ hi]
  unfold IsD at hd
  unfold num
  cases below <;> simp <;> omega
end Go.Proofs.YtgilghiegfgjeaaGreatDoor.Dk
end
section
set_option linter.unusedVariables false
set_option linter.unusedSimpArgs false
/- Words for a call that writes to some blocks of its caller's and leaves all others as they were. No program in sight. -/
namespace Go.Proofs.YtgilghiegfgjeaaGreatDoor
open Go.RowKit

/-- w' is w but for the blocks of S, and for new ones -/
structure Turns (S : List Nat) (w w' : World) : Prop where
  os : w'.os = w.os
  tape : w'.tape = w.tape
  output : w'.output = w.output
  size : w.heap.size ≤ w'.heap.size
  block : ∀ i, i < w.heap.size → i ∉ S → w'.heap[i]? = w.heap[i]?
section
variable {S T : List Nat} {a b c w w' : World}
theorem Turns.refl (S : List Nat) (w : World) : Turns S w w := ⟨rfl, rfl, rfl, Nat.le_refl _, fun _ _ _ => rfl⟩
theorem Turns.trans (h : Turns S a b) (k : Turns S b c) : Turns S a c :=
  ⟨k.os.trans h.os, k.tape.trans h.tape, k.output.trans h.output, Nat.le_trans h.size k.size, fun i hi hn => (k.block i (Nat.lt_of_lt_of_le hi h.size) hn).trans (h.block i hi hn)⟩
theorem Turns.mono (h : Turns S a b) (hs : ∀ i ∈ S, i ∈ T) : Turns T a b := ⟨h.os, h.tape, h.output, h.size, fun i hi hn => h.block i hi fun k => hn (hs i k)⟩
/-- blocks that the caller did not have may be struck from the list -/
theorem Turns.fresh (h : Turns S a b) (hs : ∀ i ∈ S, i ∈ T ∨ a.heap.size ≤ i) : Turns T a b :=
  ⟨h.os, h.tape, h.output, h.size, fun i hi hn => h.block i hi fun k => (hs i k).elim hn fun h => by omega⟩
theorem Turns.alloc (h : Turns S a w) (o : Obj) : Turns S a (w.alloc o) :=
  ⟨h.os, h.tape, h.output, Nat.le_trans h.size (by simp), fun i hi hn => (Below.heap_alloc w o i (Nat.lt_of_lt_of_le hi h.size)).trans (h.block i hi hn)⟩
theorem Turns.setCell (h : Turns S a w) {p : Addr} (hp : p.block ∈ S ∨ a.heap.size ≤ p.block) (u : Value) : Turns S a (w.setCell p u) :=
  ⟨h.os, h.tape, h.output, by simpa [World.setCell] using h.size, fun i hi hn => (Below.heap_setCell w p u i (by
    rintro rfl
    rcases hp with hp | hp
    · exact hn hp
    · omega)).trans (h.block i hi hn)⟩
theorem Turns.drew (h : Turns S a w) : Turns S a w.drew := ⟨h.os, h.tape, h.output, h.size, h.block⟩
theorem Turns.of_below (h : Below a.heap.size a b) : Turns S a b := ⟨h.os, h.tape, h.output, h.size, fun i hi _ => h.block i hi⟩
theorem Turns.below {B : Nat} (h : Turns S a b) (hS : ∀ i ∈ S, B ≤ i) (hB : B ≤ a.heap.size) : Below B a b :=
  ⟨h.os, h.tape, h.output, h.size, fun i hi => h.block i (by omega) fun k => by have := hS i k; omega⟩
theorem Turns.blk {g : Nat} {t : TypeId} {cs : Array Value} (h : Turns S w w') (hb : Blk w g t cs) (hg : g ∉ S) : Blk w' g t cs := (h.block g hb.lt hg).trans hb
theorem Turns.grown {g : Nat} (h : w.grownBy w' (some g)) : Turns [g] w w' := ⟨h.os, h.tape, h.output, h.size, fun i hi hn => h.block i hi (by intro e; injection e with e; exact hn (by simp [e]))⟩
theorem Turns.own {base : Nat} {e : TypeId} {sz : Nat} {v : Value} {n : Nat} {xs : List Value} (h : w.ownsRow base e sz v n xs) (k : Turns S w w') (hn : ∀ g, v.ownBlock = some g → g ∉ S) : w'.ownsRow base e sz v n xs := by
  cases hv : v.ownBlock with
  | none =>
    rcases h.2 with ⟨rfl, h0⟩ | ⟨g, cap, cur, rfl, _⟩
    · exact ⟨h.1, .inl ⟨rfl, h0⟩⟩
    · simp [Value.ownBlock] at hv
  | some g =>
    have hg : g ∉ S := hn g hv
    have hl := (h.lt g hv).2
    rcases h.2 with ⟨rfl, h0⟩ | ⟨g', cap, cur, rfl, hb, hc, r⟩
    · simp [Value.ownBlock] at hv
    · have e : g' = g := by simpa [Value.ownBlock] using hv
      subst e
      exact ⟨h.1, .inr ⟨g', cap, cur, rfl, hb, (k.block g' hl hg).trans hc, r⟩⟩
end
end Go.Proofs.YtgilghiegfgjeaaGreatDoor
end
section
set_option linter.unusedVariables false
set_option linter.unusedSimpArgs false
/- Layer 40: the kinds' names. No program in sight. -/
namespace Go.Proofs.YtgilghiegfgjeaaGreatDoor
open Go
def nmB : Nat → ByteArray
  | 1 => ⟨#[116, 97, 115]⟩
  | 2 => ⟨#[116, 105, 99, 107, 101, 116]⟩
  | 3 => ⟨#[112, 97, 114, 116, 101, 100]⟩
  | 4 => ⟨#[109, 99, 115]⟩
  | 5 => ⟨#[99, 108, 104]⟩
  | 6 => ⟨#[99, 111, 104, 111, 114, 116]⟩
  | 7 => ⟨#[104, 109, 99, 115]⟩
  | 8 => ⟨#[104, 99, 108, 104]⟩
  | 9 => ⟨#[99, 110, 97]⟩
  | 10 => ⟨#[109, 97, 108, 116, 104, 117, 115]⟩
  | 11 => ⟨#[110, 101, 117, 116, 114, 97, 108]⟩
  | 12 => ⟨#[114, 101, 97, 100, 101, 114, 115]⟩
  | 13 => ⟨#[119, 114, 105, 116, 101, 114, 115]⟩
  | _ => ⟨#[]⟩
def nameS (n : Int) : ByteArray := nmB n.toNat
def KindIs (s : ByteArray) (k : Nat) : Prop := (k = 0 ∧ ∀ i, 1 ≤ i → i ≤ 13 → nmB i ≠ s) ∨ (1 ≤ k ∧ k ≤ 13 ∧ nmB k = s)
theorem nmB_inj : ∀ i, i < 14 → ∀ j, j < 14 → nmB i = nmB j → i = j := by
  have h : ∀ i, i < 14 → ∀ j, j < 14 → (nmB i).data = (nmB j).data → i = j := by decide +kernel
  exact fun i hi j hj e => h i hi j hj (by rw [e])
theorem nmB_ne : ∀ i, 1 ≤ i → i ≤ 13 → ¬ (nmB i).toList = [] ∧ (nmB i).toList.isEmpty = false := by
  have h : ∀ i, i < 14 → 1 ≤ i → (¬ (nmB i).toList = [] ∧ (nmB i).toList.isEmpty = false) := by decide +kernel
  exact fun i h1 h2 => h i (by omega) h1
theorem nmB_size : ∀ i, i ≤ 13 → (nmB i).size ≤ 7 := by
  have h : ∀ i, i < 14 → (nmB i).size ≤ 7 := by decide +kernel
  exact fun i h2 => h i (by omega)
theorem nmB_out {i : Nat} (h : 14 ≤ i) : nmB i = ⟨#[]⟩ := by
  unfold nmB
  split <;> first | omega | rfl
theorem KindIs.uniq {s : ByteArray} {j k : Nat} (h1 : KindIs s j) (h2 : KindIs s k) : j = k := by
  rcases h1 with ⟨rfl, a⟩ | ⟨a1, a2, a3⟩
  · rcases h2 with ⟨rfl, _⟩ | ⟨b1, b2, b3⟩
    · rfl
    · exact absurd b3 (a k b1 b2)
  · rcases h2 with ⟨rfl, b⟩ | ⟨b1, b2, b3⟩
    · exact absurd a3 (b j a1 a2)
    · exact nmB_inj j (by omega) k (by omega) (a3.trans b3.symm)
theorem KindIs.le {s : ByteArray} {k : Nat} (h : KindIs s k) : k ≤ 13 := by
  rcases h with ⟨rfl, _⟩ | ⟨_, a2, _⟩ <;> omega
/-- the kind of a name -/
theorem KindIs.name {n : Int} {k : Nat} (h : KindIs (nameS n) k) : nameS n = ⟨#[]⟩ ∨ (k : Int) = n := by
  unfold nameS at *
  by_cases h1 : 1 ≤ n.toNat ∧ n.toNat ≤ 13
  · have h2 : KindIs (nmB n.toNat) n.toNat := .inr ⟨h1.1, h1.2, rfl⟩
    have := h.uniq h2
    exact .inr (by omega)
  · left
    by_cases h0 : n.toNat = 0
    · rw [h0]; rfl
    · exact nmB_out (by omega)
end Go.Proofs.YtgilghiegfgjeaaGreatDoor
end
section
set_option linter.unusedVariables false
set_option linter.unusedSimpArgs false
/- Layer 40: Name and Kind, the program's and the document's. -/
namespace Go.Proofs.YtgilghiegfgjeaaGreatDoor
open Go.RowKit Go.WideShapes

set_option maxRecDepth 100000 in
set_option maxHeartbeats 4000000 in
theorem name_any (w : World) (n : Int) : Calls Tryz.prog 21 #[.int .i64 n] w fun e w' => e = .returned (.string (nameS n)) ∧ Below w.heap.size w w' := by
  rcases (show n < 0 ∨ 14 ≤ n ∨ n = 0 ∨ n = 1 ∨ n = 2 ∨ n = 3 ∨ n = 4 ∨ n = 5 ∨ n = 6 ∨ n = 7 ∨ n = 8 ∨ n = 9 ∨ n = 10 ∨ n = 11 ∨ n = 12 ∨ n = 13 by omega) with h | h | rfl | rfl | rfl | rfl | rfl | rfl | rfl | rfl | rfl | rfl | rfl | rfl | rfl | rfl
  · have e : nameS n = ⟨#[]⟩ := by unfold nameS; rw [show n.toNat = 0 by omega]; rfl
    rw [e]
    clear e
    go_enter Tryz.func21, Tryz.ntmps21
    go_wp2
    go_ret
    exact ⟨rfl, (Below.refl _ _).alloc (Nat.le_refl _) _⟩
  · have e : nameS n = ⟨#[]⟩ := nmB_out (by omega)
    rw [e]
    clear e
    go_enter Tryz.func21, Tryz.ntmps21
    go_wp2
    go_ret
    exact ⟨rfl, (Below.refl _ _).alloc (Nat.le_refl _) _⟩
  all_goals
    go_enter Tryz.func21, Tryz.ntmps21
    go_wp2
    go_ret
    exact ⟨rfl, (Below.refl _ _).alloc (Nat.le_refl _) _⟩
theorem str_ne {a b : ByteArray} (h : ¬ a = b) : (a.toList == b.toList) = false := by
  rw [ByteArray.toList_eq, ByteArray.toList_eq]
  simp only [beq_eq_false_iff_ne, ne_eq]
  exact fun e => h (bytes_inj e)
theorem str_eq {a b : ByteArray} (h : a = b) : (a.toList == b.toList) = true := by rw [h]; simp
set_option maxHeartbeats 1000000 in
theorem kind_any (w : World) (s : ByteArray) : Calls Tryz.prog 18 #[.string s] w fun e w' => ∃ k : Nat, e = .returned (.int .i64 k) ∧ KindIs s k ∧ Below w.heap.size w w' := by
  go_enter Tryz.func18, Tryz.ntmps18
  go_wp2
  go_loopw [3] (fun j wr => ∃ k : Nat, j = .int .i64 k ∧ 1 ≤ k ∧ k ≤ 14 ∧ (∀ i, 1 ≤ i → i < k → nmB i ≠ s) ∧ Below w.heap.size w wr) (fun j _ => 14 - (intOf j).toNat)
  case atStart => exact ⟨1, rfl, by omega, by omega, fun i h1 h2 => by omega, Below.refl _ _⟩
  case round =>
    obtain ⟨k, rfl, h1, h14, hall, hB⟩ := hrel
    obtain ⟨wo, rfl⟩ : ∃ wo : World, wo = wr := ⟨_, rfl⟩
    have HB := Lib.hid (And.intro hB hall)
    clear hB hall
    by_cases hk : k = 14
    · subst hk
      go_wp2_with fail
      refine (name_any _ _).mono ?_
      rintro en w1 ⟨rfl, b1⟩
      have H1 := Lib.hid (HB.out.1.trans (b1.mono HB.out.1.size))
      clear b1
      have e : nameS 14 = ⟨#[]⟩ := rfl
      rw [e]
      go_wp2
      go_ret
      exact ⟨0, rfl, .inl ⟨rfl, fun i h1 h2 => HB.out.2 i h1 (by omega)⟩, H1.out⟩
    · have hne := nmB_ne k h1 (by omega)
      obtain ⟨ne1, ne2⟩ := hne
      go_wp2_with fail
      refine (name_any _ _).mono ?_
      rintro en w1 ⟨rfl, b1⟩
      have H1 := Lib.hid (HB.out.1.trans (b1.mono HB.out.1.size))
      clear b1
      have e : nameS (k : Int) = nmB k := rfl
      rw [e]
      go_wp2_with fail
      refine (name_any _ _).mono ?_
      rintro en w2 ⟨rfl, b2⟩
      have H2 := Lib.hid (H1.out.trans (b2.mono H1.out.size))
      clear b2
      rw [e]
      by_cases hs : nmB k = s
      · have he : ((nmB k).toList == s.toList) = true := by rw [hs]; simp
        have HS := Lib.hid hs
        clear hs
        go_wp2
        go_ret
        exact ⟨k, rfl, .inr ⟨h1, by omega, HS.out⟩, H2.out⟩
      · have he : ((nmB k).toList == s.toList) = false := str_ne hs
        have HS := Lib.hid hs
        clear hs
        go_wp2
        go_roundw
        case rel =>
          refine ⟨k + 1, by go_num, by omega, by omega, fun i h1 h2 => ?_, H2.out⟩
          by_cases e : i = k
          · subst e; exact HS.out
          · exact HB.out.2 i h1 (by omega)
        case measure => simp [intOf]; omega
set_option maxRecDepth 100000 in
set_option maxHeartbeats 4000000 in
theorem names_any (w : World) : Calls Tryz.prog 40 #[] w fun e w' => ∃ g cs, e = .returned (.slice (some ⟨g, 0, none⟩) 13 13) ∧ Blk w' g 9 cs ∧ (∀ i, i < 13 → cs[i]? = some (.string (nmB (i + 1)))) ∧ Below w.heap.size w w' := by
  go_enter Tryz.func40, Tryz.ntmps40
  go_wp2
  go_ret
  refine ⟨w.heap.size, _, rfl, Blk.new _ _ _, ?_, (Below.refl _ _).alloc (Nat.le_refl _) _⟩
  intro i hi
  rcases (show i = 0 ∨ i = 1 ∨ i = 2 ∨ i = 3 ∨ i = 4 ∨ i = 5 ∨ i = 6 ∨ i = 7 ∨ i = 8 ∨ i = 9 ∨ i = 10 ∨ i = 11 ∨ i = 12 by omega) with rfl | rfl | rfl | rfl | rfl | rfl | rfl | rfl | rfl | rfl | rfl | rfl | rfl <;> rfl
set_option maxHeartbeats 1000000 in
theorem rname_any (w : World) (n : Int) : Calls Tryz.prog 24 #[.int .i64 n] w fun e w' => e = .returned (.string (nameS n)) ∧ Below w.heap.size w w' := by
  by_cases h1 : n < 1
  · rw [show nameS n = ⟨#[]⟩ by unfold nameS; rw [show n.toNat = 0 by omega]; rfl]
    go_enter Tryz.func24, Tryz.ntmps24
    go_wp2_with fail
    refine (names_any w).mono ?_
    rintro en w1 ⟨g, cs, rfl, hB, hc, b1⟩
    have H1 := Lib.hid b1
    clear hB hc b1
    go_wp2
    go_ret
    exact ⟨rfl, H1.out⟩
  by_cases h2 : 13 < n
  · rw [show nameS n = ⟨#[]⟩ from nmB_out (by omega)]
    go_enter Tryz.func24, Tryz.ntmps24
    go_wp2_with fail
    refine (names_any w).mono ?_
    rintro en w1 ⟨g, cs, rfl, hB, hc, b1⟩
    have H1 := Lib.hid b1
    clear hB hc b1
    go_wp2
    go_ret
    exact ⟨rfl, H1.out⟩
  obtain ⟨k, rfl⟩ : ∃ k : Nat, n = ((k + 1 : Nat) : Int) := ⟨n.toNat - 1, by omega⟩
  have h3 : k < 13 := by omega
  have h4 : (k : Int) < 13 := by omega
  obtain ⟨s, hs⟩ : ∃ s, s = nameS ((k + 1 : Nat) : Int) := ⟨_, rfl⟩
  rw [← hs]
  have HS := Lib.hid hs
  clear hs
  go_enter Tryz.func24, Tryz.ntmps24
  go_wp2_with fail
  refine (names_any w).mono ?_
  rintro en w1 ⟨g, cs, rfl, hB, hc, b1⟩
  have H1 := Lib.hid b1
  have hc1 : w1.cell? ⟨g, k, none⟩ = some (.string s) := by
    rw [hB.cell k, hc k (by omega), HS.out]
    rfl
  clear hB hc b1
  go_wp2
  go_ret
  exact ⟨rfl, H1.out⟩
set_option maxHeartbeats 1000000 in
theorem rkind_any (w : World) (s : ByteArray) : Calls Tryz.prog 20 #[.string s] w fun e w' => ∃ k : Nat, e = .returned (.int .i64 k) ∧ KindIs s k ∧ Below w.heap.size w w' := by
  go_enter Tryz.func20, Tryz.ntmps20
  go_wp2
  go_loopw [3] (fun j wr => ∃ k : Nat, j = .int .i64 k ∧ 1 ≤ k ∧ k ≤ 14 ∧ (∀ i, 1 ≤ i → i < k → nmB i ≠ s) ∧ Below w.heap.size w wr) (fun j _ => 14 - (intOf j).toNat)
  case atStart => exact ⟨1, rfl, by omega, by omega, fun i h1 h2 => by omega, Below.refl _ _⟩
  case round =>
    obtain ⟨k, rfl, h1, h14, hall, hB⟩ := hrel
    obtain ⟨wo, rfl⟩ : ∃ wo : World, wo = wr := ⟨_, rfl⟩
    have HB := Lib.hid (And.intro hB hall)
    clear hB hall
    by_cases hk : k = 14
    · subst hk
      go_wp2
      go_ret
      exact ⟨0, rfl, .inl ⟨rfl, fun i h1 h2 => HB.out.2 i h1 (by omega)⟩, HB.out.1⟩
    · go_wp2_with fail
      refine (rname_any _ _).mono ?_
      rintro en w1 ⟨rfl, b1⟩
      have H1 := Lib.hid (HB.out.1.trans (b1.mono HB.out.1.size))
      clear b1
      have e : nameS (k : Int) = nmB k := rfl
      rw [e]
      by_cases hs : nmB k = s
      · have he : ((nmB k).toList == s.toList) = true := str_eq hs
        have HS := Lib.hid hs
        clear hs
        go_wp2
        go_ret
        exact ⟨k, rfl, .inr ⟨h1, by omega, HS.out⟩, H1.out⟩
      · have he : ((nmB k).toList == s.toList) = false := str_ne hs
        have HS := Lib.hid hs
        clear hs
        go_wp2
        go_roundw
        case rel =>
          refine ⟨k + 1, by go_num, by omega, by omega, fun i h1 h2 => ?_, H1.out⟩
          by_cases e : i = k
          · subst e; exact HS.out
          · exact HB.out.2 i h1 (by omega)
        case measure => simp [intOf]; omega
end Go.Proofs.YtgilghiegfgjeaaGreatDoor
end
section
set_option linter.unusedVariables false
set_option linter.unusedSimpArgs false
/- Layer 3: dec.next, dec.digits. -/
namespace Go.Proofs.YtgilghiegfgjeaaGreatDoor
open Go.RowKit Dk

/-- the next number, if it is one -/
theorem next_any (w : World) (n d : Int) (below : Bool) (hn : inR n) (hd : 0 ≤ d ∧ d ≤ 9) (hs : if below then n ≤ 0 else 0 ≤ n) :
    Calls Tryz.prog 102 #[.int .i64 n, .int .i64 d, .bool below] w fun e w' => w' = w ∧
      (inR (if below then n * 10 - d else n * 10 + d) ∧ e = .returned (.tuple #[.int .i64 (if below then n * 10 - d else n * 10 + d), .bool true]) ∨ ¬ inR (if below then n * 10 - d else n * 10 + d) ∧ e = .returned (.tuple #[.int .i64 n, .bool false])) := by
  have hn' : -9223372036854775808 ≤ n ∧ n ≤ 9223372036854775807 := hn
  cases below with
  | true =>
    simp only [if_true] at hs ⊢
    have h := next_down hs hd
    have e1 : wrap64 (-9223372036854775808 + d) = -9223372036854775808 + d := by unfold wrap64; omega
    by_cases hlt : n < (-9223372036854775808 + d).tdiv 10
    · go_enter Tryz.func102, Tryz.ntmps102
      go_wp2
      go_ret2
      exact ⟨rfl, .inr ⟨by unfold inR; omega, rfl⟩⟩
    · have h2 : -9223372036854775808 ≤ n * 10 - d := Classical.not_not.1 fun x => hlt (h.2 x)
      clear h
      go_enter Tryz.func102, Tryz.ntmps102
      go_wp2
      go_ret2
      exact ⟨rfl, .inl ⟨by unfold inR; omega, rfl⟩⟩
  | false =>
    simp only [Bool.false_eq_true, if_false] at hs ⊢
    have h := next_up hs hd
    have e1 : wrap64 (9223372036854775807 - d) = 9223372036854775807 - d := by unfold wrap64; omega
    by_cases hlt : (9223372036854775807 - d).tdiv 10 < n
    · go_enter Tryz.func102, Tryz.ntmps102
      go_wp2
      go_ret2
      exact ⟨rfl, .inr ⟨by unfold inR; omega, rfl⟩⟩
    · have h2 : n * 10 + d ≤ 9223372036854775807 := Classical.not_not.1 fun x => hlt (h.2 x)
      clear h
      go_enter Tryz.func102, Tryz.ntmps102
      go_wp2
      go_ret2
      exact ⟨rfl, .inl ⟨by unfold inR; omega, rfl⟩⟩
theorem dropGet (s : ByteArray) (a k : Nat) (h : a + k < s.size) : (s.data.toList.drop a)[k]? = some (s[a + k]'h) := by
  rw [List.getElem?_drop]
  have : a + k < s.data.toList.length := h
  rw [List.getElem?_eq_getElem this]
  rfl
theorem lenData (s : ByteArray) : s.data.toList.length = s.size := rfl
theorem digits_any (w : World) (s : ByteArray) (at_ : Nat) (ha : at_ ≤ s.size) (hs : s.size ≤ 4294967296) :
    Calls Tryz.prog 101 #[.string s, .int .i64 at_] w fun e w' => ∃ k : Nat, e = .returned (.int .i64 k) ∧ Lead (s.data.toList.drop at_) k ∧ w' = w := by
  go_enter Tryz.func101, Tryz.ntmps101
  go_wp2
  go_loopw [5] (fun j wr => ∃ k : Nat, j = .int .i64 k ∧ at_ + k ≤ s.size ∧ (∀ (i : Nat) (b : UInt8), i < k → (s.data.toList.drop at_)[i]? = some b → IsD b) ∧ wr = w) (fun j _ => s.size - (intOf j).toNat)
  case atStart => exact ⟨0, rfl, by omega, fun i b hi => by omega, rfl⟩
  case round =>
    obtain ⟨k, rfl, h1, hall, rfl⟩ := hrel
    have hlen : (s.data.toList.drop at_).length = s.size - at_ := by rw [List.length_drop, lenData]
    have hget := dropGet s at_ k
    have HG := Lib.hid (And.intro hlen hget)
    clear hlen hget
    go_wp2
    case roundEnd =>
      refine ⟨⟨k + 1, by go_num, by omega, fun i b hi hb => ?_, trivial⟩, by simp [intOf]; omega⟩
      by_cases e : i = k
      · subst e
        rw [HG.out.2 (by omega)] at hb
        injection hb with hb
        subst hb
        unfold IsD
        omega
      · exact hall i b (by omega) hb
    all_goals
      go_ret
      refine ⟨k, rfl, ⟨by rw [HG.out.1]; omega, hall, fun b hb => ?_⟩, rfl⟩
      first
        | (rw [HG.out.2 (by omega)] at hb
           injection hb with hb
           subst hb
           unfold IsD
           omega)
        | (rw [List.getElem?_eq_none (by rw [HG.out.1]; omega)] at hb
           cases hb)
end Go.Proofs.YtgilghiegfgjeaaGreatDoor
end
section
set_option linter.unusedVariables false
set_option linter.unusedSimpArgs false
/- A contract of the library's shelf, laid at this program (written by the kit's lay-plain.mjs: wip/lay48.sh). -/
namespace Go.Proofs
open Go.Shelf
def Tryz.lhasp_ren : Go.Shelf.Ren := ⟨fun | 99 => 100 | 206 => 147 | n => n, fun | 9 => 9 | 4 => 4 | 3 => 3 | n => n, fun | n => n⟩
theorem Tryz.lhasp : Go.Proofs.Lays.n99 Tryz.prog Tryz.lhasp_ren := {
  mixed := by kernel_rfl
  f99 := Tryz.func100.trans (congrArg some (by kernel_rfl))
  f206 := Tryz.func147.trans (congrArg some (by kernel_rfl))
  t3 := Tryz.underlying3
  a3 := Tryz.isAgg3
  z3 := Tryz.sizeOf3
  v3 := Tryz.zeroValue3
  t4 := Tryz.underlying4
  a4 := Tryz.isAgg4
  z4 := Tryz.sizeOf4
  v4 := Tryz.zeroValue4
  t9 := Tryz.underlying9
  a9 := Tryz.isAgg9
  z9 := Tryz.sizeOf9
  v9 := Tryz.zeroValue9 }
end Go.Proofs
end
