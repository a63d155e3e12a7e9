/- Joined: JfP, Base, Top1, Top2, Top3, Top4, Es1, SameI, Es2, Es3, Es4, Xq1, Xq2, Xq3, Xq4, Xq5, Xq6. -/
import Derived.Test.YtagajjilccjplaaGreatRows
import Derived.WalkKit
import Derived.ProofKit
import Derived.ChangeOld
import Derived.WalkSpells
import Derived.WalkLawsBesides
import Derived.Below
import Derived.Outline
import Derived.Lib.Hide
import Derived.Deep.QuietTactic
import Derived.BigQuiet
import Derived.Deep.Draws
import Derived.RegionCalls
import Derived.Laws.OwnMore
import Derived.OwnWalk
import Derived.Maps.AppendAt
import Derived.Laws.StructEq
import Derived.Great.BuildSlice
section
set_option linter.unusedVariables false
set_option linter.unusedSimpArgs false
/- Closed facts of the whole cut, once for all laws of a great seat. -/
namespace Go.Proofs.YtagajjilccjplaaGreat
open Go.ChangeShapes Go.WideShapes Go.ChangeAt Go.RowKit
theorem laidOutP : laidOutB Tryz.pinned.checked.prog = true := by kernel_rfl
theorem mapsRowedP : mapsRowed Tryz.pinned.checked.prog = true := by kernel_rfl
theorem stopsHeardP : (Tryz.pinned.checked.prog).stopsHeard = true := by kernel_rfl
theorem mayEnterP : (Tryz.pinned.checked.prog).mayEnter = true := by kernel_rfl
end Go.Proofs.YtagajjilccjplaaGreat
end
section
set_option linter.unusedVariables false
set_option linter.unusedSimpArgs false
/-
  Words for memory that my walks share: a slice that reads as a list of elements (RdL), a call that only reads (Qt), small laws on the two. No program in sight.
-/
namespace Go.Proofs.YtagajjilccjplaaGreat
open Go.RowKit

/-- The slice value v reads as the list l in w: sz cells an element, by enc. -/
def RdL {α : Type} (w : World) (v : Value) (sz : Nat) (enc : α → List Value) (l : List α) : Prop :=
  ∃ A cap, v = .slice A l.length cap ∧ l.length ≤ cap ∧ l.length ≤ 140737488355328 ∧
    (0 < l.length → ∃ b off, A = some ⟨b, off, none⟩ ∧ b < w.heap.size ∧ ∀ i x, l[i]? = some x → ∀ j u, (enc x)[j]? = some u → w.cell? ⟨b, off + i * sz + j, none⟩ = some u)

def Qt (w w' : World) : Prop := ∃ n, w' = w.drewN n

theorem Qt.refl (w : World) : Qt w w := ⟨0, rfl⟩
theorem Qt.trans {a b c : World} (h : Qt a b) (k : Qt b c) : Qt a c := by
  obtain ⟨n, rfl⟩ := h; obtain ⟨m, rfl⟩ := k
  exact ⟨n + m, by rw [World.drewN_drewN]⟩
theorem below_drewN {B : Nat} {a w : World} (h : Below B a w) (n : Nat) : Below B a (w.drewN n) := ⟨h.os, h.tape, h.output, h.size, h.block⟩
theorem Qt.below {w w' : World} (h : Qt w w') (B : Nat) : Below B w w' := by
  obtain ⟨n, rfl⟩ := h
  exact below_drewN (Below.refl _ _) n
section
variable {α : Type} {w w' : World} {v : Value} {sz : Nat} {enc : α → List Value} {l : List α}
theorem RdL.keep (h : RdL w v sz enc l) (hs : w.heap.size ≤ w'.heap.size) (hk : ∀ p : Addr, p.block < w.heap.size → w'.cell? p = w.cell? p) : RdL w' v sz enc l := by
  obtain ⟨A, cap, h1, h2, h3, h4⟩ := h
  refine ⟨A, cap, h1, h2, h3, fun hn => ?_⟩
  obtain ⟨b, off, e, hb, hc⟩ := h4 hn
  exact ⟨b, off, e, by omega, fun i x hx j u hu => (hk _ hb).trans (hc i x hx j u hu)⟩
theorem RdL.below (h : RdL w v sz enc l) {B : Nat} (hb : Below B w w') (hB : w.heap.size ≤ B) : RdL w' v sz enc l :=
  h.keep hb.size fun p hp => hb.cell (by omega)
theorem RdL.drewN (h : RdL w v sz enc l) (n : Nat) : RdL (w.drewN n) v sz enc l := h
theorem RdL.alloc (h : RdL w v sz enc l) (o : Obj) : RdL (w.alloc o) v sz enc l := h.keep (by simp) fun p hp => World.cell?_alloc_lt w o p hp
theorem RdL.setCell (h : RdL w v sz enc l) {B : Nat} (hb : ∀ b off cap, v = .slice (some ⟨b, off, none⟩) l.length cap → b < B) {p : Addr} (hp : B ≤ p.block) (u : Value) : RdL (w.setCell p u) v sz enc l := by
  obtain ⟨A, cap, h1, h2, h3, h4⟩ := h
  refine ⟨A, cap, h1, h2, h3, fun hn => ?_⟩
  obtain ⟨b, off, e, hbb, hc⟩ := h4 hn
  have hlt : b < B := hb b off cap (by rw [h1, e])
  exact ⟨b, off, e, by simpa [World.setCell] using hbb, fun i x hx j u' hu => (World.cell?_setCell_other w p _ u (fun e => by subst e; simp at hp; omega)).trans (hc i x hx j u' hu)⟩
theorem RdL.nil : RdL w (.slice none 0 0) sz enc [] := ⟨none, 0, rfl, by simp, by simp, by simp⟩
end

/-- the cells of a list of elements, one behind the other -/
theorem getElem?_flatMap {α : Type} (enc : α → List Value) (sz : Nat) (hs : ∀ x, (enc x).length = sz) (l : List α) :
    ∀ i x j u, l[i]? = some x → (enc x)[j]? = some u → (l.flatMap enc)[i * sz + j]? = some u := by
  induction l with
  | nil => intro i x j u h; simp at h
  | cons a l ih =>
    intro i x j u h hu
    have hj : j < sz := by have := (List.getElem?_eq_some_iff.1 hu).1; rw [hs] at this; exact this
    cases i with
    | zero =>
      simp at h; subst h
      rw [List.flatMap_cons, List.getElem?_append_left (by rw [hs]; omega)]
      simpa using hu
    | succ i =>
      rw [List.flatMap_cons, List.getElem?_append_right (by rw [hs, Nat.succ_mul]; omega), hs]
      have : (i + 1) * sz + j - sz = i * sz + j := by rw [Nat.succ_mul]; omega
      rw [this]
      exact ih i x j u (by simpa using h) hu
/-- what a call owns reads as a list -/
theorem RdL.of_own {α : Type} {w : World} {base : Nat} {e : TypeId} {sz : Nat} {v : Value} {n : Nat} {enc : α → List Value} {l : List α} (hs : ∀ x, (enc x).length = sz)
    (hn : n = l.length) (hcap : l.length ≤ 140737488355328) (h : w.ownsRow base e sz v n (l.flatMap enc)) : RdL w v sz enc l := by
  subst hn
  rcases h.2 with ⟨rfl, h0⟩ | ⟨g, cap, cur, rfl, hb, hg, hnc, hcm, hcs, ht⟩
  · have : l = [] := List.eq_nil_of_length_eq_zero h0
    subst this
    exact RdL.nil
  · refine ⟨some ⟨g, 0, none⟩, cap, rfl, hnc, hcap, fun _ => ⟨g, 0, rfl, (Array.getElem?_eq_some_iff.1 hg).1, ?_⟩⟩
    intro i x hx j u hu
    have hc := h.cells (g := g) rfl (i * sz + j) u (getElem?_flatMap enc sz hs l i x j u hx hu)
    have hadd : (⟨g, 0, none⟩ : Addr).add (i * sz + j) = ⟨g, 0 + i * sz + j, none⟩ := by
      unfold Addr.add; split <;> simp_all
    rw [hadd] at hc
    exact hc
theorem getElem?_lt {α : Type} {l : List α} {k : Nat} (h : k < l.length) : ∃ x, l[k]? = some x := ⟨l[k], List.getElem?_eq_getElem h⟩
theorem take_succ_of {α : Type} {l : List α} {k : Nat} {x : α} (h : l[k]? = some x) : l.take (k + 1) = l.take k ++ [x] := by
  rw [List.take_add_one, h]; rfl
def encI (z : Int) : List Value := [.int .i64 z]
theorem encI_len (z : Int) : (encI z).length = 1 := rfl
section
variable {w w' : World} {g : Nat} {t : TypeId} {cs : Array Value}
end
theorem eq_of_take {α : Type} {a b : List α} (hn : a.length = b.length) (h : a.take a.length = b.take a.length) : a = b := by
  rw [List.take_length] at h
  rw [h, hn, List.take_length]
theorem ret_bool {a b : Bool} (h : a = b) : Ending.returned (.bool a) = .returned (.bool b) := by rw [h]
theorem own_form {w : World} {base : Nat} {e : TypeId} {sz : Nat} {v : Value} {n : Nat} {xs : List Value} (h : w.ownsRow base e sz v n xs) : ∃ A c, v = .slice A n c := by
  rcases h.2 with ⟨rfl, rfl⟩ | ⟨g, cap, cur, rfl, _⟩
  · exact ⟨_, _, rfl⟩
  · exact ⟨_, _, rfl⟩
end Go.Proofs.YtagajjilccjplaaGreat
end
section
set_option linter.unusedVariables false
set_option linter.unusedSimpArgs false
/- Layer 6: trees of places as lists of parents; plain data, no program in sight. -/
namespace Go.Proofs.YtagajjilccjplaaGreat
open Go.RowKit

def leafB (P : List Int) (v : Int) : Bool := decide (0 ≤ v ∧ v < P.length ∧ v ∉ P)
def leavesTo (P : List Int) (k : Nat) : List Int := ((List.range k).map Int.ofNat).filter (leafB P)
def dep (P : List Int) : Nat → Int → Nat
  | 0, _ => 0
  | f + 1, v => if 0 ≤ v ∧ v < P.length then dep P f (P.getD v.toNat 0) + 1 else 0
def depL (P : List Int) (v : Int) : Nat := dep P P.length v
/-- a list over a range, one place written -/
theorem range_set {α : Type} (n i : Nat) (f g : Nat → α) (u : α) (hi : g i = u) (ho : ∀ j, j ≠ i → g j = f j) : ((List.range n).map f).set i u = (List.range n).map g := by
  refine List.ext_getElem? fun j => ?_
  rw [List.getElem?_set]
  by_cases hji : i = j
  · subst hji
    rw [if_pos rfl]
    by_cases hin : i < n
    · simp [hin, hi]
    · simp [hin]
  · rw [if_neg hji]
    by_cases hjn : j < n
    · simp [hjn, ho j (fun h => hji h.symm)]
    · simp [hjn]
theorem range_get {α : Type} (n i : Nat) (f : Nat → α) (h : i < n) : ((List.range n).map f)[i]? = some (f i) := by simp [h]
end Go.Proofs.YtagajjilccjplaaGreat
end
section
set_option linter.unusedVariables false
set_option linter.unusedSimpArgs false
/- Layer 6: topo.tree, inner, leaves, levels. -/
namespace Go.Proofs.YtagajjilccjplaaGreat
open Go.RowKit

theorem Tryz.infoIn : (Tryz.prog.info? 3).map (fun i => (i.zero, i.size, i.bytes)) = some (some (.int .i64 0), 1, 8) := by kernel_rfl
theorem made_const (u : Value) (n : Nat) : (madeCells #[u] n).toList = (List.range n).map fun _ => u := by
  unfold madeCells
  rw [Array.toList_map, Array.toList_range]
  refine List.map_congr_left fun i _ => ?_
  simp [Nat.mod_one]
theorem map_flat {α : Type} (enc : α → Value) (l : List α) : l.map enc = l.flatMap (fun x => [enc x]) := by
  induction l with
  | nil => rfl
  | cons a l ih => rw [List.map_cons, List.flatMap_cons, ih]; rfl
end Go.Proofs.YtagajjilccjplaaGreat
end
section
set_option linter.unusedVariables false
set_option linter.unusedSimpArgs false
/- Layer 6: topo.leaves, levels. -/
namespace Go.Proofs.YtagajjilccjplaaGreat
open Go.RowKit

theorem own_rdl {w : World} {b : Nat} {v : Value} {l : List Int} (h : w.ownsRow b 3 1 v l.length (l.flatMap encI)) (hl : l.length ≤ 140737488355328) : RdL w v 1 encI l := RdL.of_own encI_len rfl hl h
theorem one_enc (x : Int) : ∀ u ∈ encI x, u.oneCell' = true := by simp [encI, Value.oneCell']
theorem flat_snoc (l : List Int) (x : Int) : (l ++ [x]).flatMap encI = l.flatMap encI ++ encI x := by simp
theorem flatI (l : List Int) : l.flatMap encI = l.map (Value.int .i64) := (map_flat _ _).symm
end Go.Proofs.YtagajjilccjplaaGreat
end
section
set_option linter.unusedVariables false
set_option linter.unusedSimpArgs false
/- ExploreScripts, plain: how many scripts there are, and a script's digits. No program in sight. -/
namespace Go.Proofs.YtagajjilccjplaaGreat
open Go Go.RowKit

def badN (t d : Int) : Prop := t < 1 ∨ 32 < t ∨ d < 0 ∨ 4000 < d
instance (t d : Int) : Decidable (badN t d) := by unfold badN; infer_instance
def scN (t d : Int) : Int := if badN t d then 0 else if 5000 < ((t.toNat ^ d.toNat : Nat) : Int) then 0 else ((t.toNat ^ d.toNat : Nat) : Int)
theorem scN_bad {t d : Int} (h : badN t d) : scN t d = 0 := if_pos h
theorem scN_ok {T D : Nat} (h : ¬ badN T D) : scN T D = if 5000 < T ^ D then 0 else ((T ^ D : Nat) : Int) := by
  unfold scN
  rw [if_neg h]
  simp only [Int.toNat_natCast]
  by_cases h5 : 5000 < T ^ D
  · rw [if_pos h5, if_pos (by omega)]
  · rw [if_neg h5, if_neg (by omega)]
theorem pow_up {T a b : Nat} (hT : 1 ≤ T) (h : a ≤ b) : T ^ a ≤ T ^ b := Nat.pow_le_pow_right (by omega) h
theorem pow_one {T a : Nat} (hT : 1 ≤ T) : 1 ≤ T ^ a := Nat.one_le_pow _ _ (by omega)
/-- the digits of a number, the first one first -/
def digN (T D N i : Nat) : Nat := N / T ^ (D - 1 - i) % T
def digL (T D N : Nat) : List Int := (List.range D).map fun i => ((digN T D N i : Nat) : Int)
/-- the last k of them -/
def digTo (T D N k : Nat) : List Int := (List.range D).map fun i => if D - k ≤ i then ((digN T D N i : Nat) : Int) else 0
theorem digTo_len (T D N k : Nat) : (digTo T D N k).length = D := by simp [digTo]
theorem digTo_all (T D N : Nat) : digTo T D N D = digL T D N := by
  unfold digTo digL
  exact List.map_congr_left fun i _ => if_pos (by omega)
theorem digTo_set (T D N k : Nat) (hk : k < D) (x : Int) (hx : x = ((N / T ^ k % T : Nat) : Int)) : ((digTo T D N k).flatMap encI).set (D - 1 - k) (.int .i64 x) = (digTo T D N (k + 1)).flatMap encI := by
  rw [flatI, flatI]
  unfold digTo
  rw [List.map_map, List.map_map]
  refine range_set D (D - 1 - k) _ _ _ ?_ fun j hj => ?_
  · show Value.int .i64 (if D - (k + 1) ≤ D - 1 - k then _ else _) = _
    rw [if_pos (by omega), hx]
    unfold digN
    rw [show D - 1 - (D - 1 - k) = k by omega]
  · show Value.int .i64 (if D - (k + 1) ≤ j then _ else _) = Value.int .i64 (if D - k ≤ j then _ else _)
    by_cases h : D - k ≤ j
    · rw [if_pos h, if_pos (by omega)]
    · rw [if_neg h, if_neg (by omega)]
theorem digTo_get (T D N k m : Nat) (hm : m < D) : ∃ x : Int, ((digTo T D N k).flatMap encI)[m]? = some (.int .i64 x) := by
  rw [flatI]
  unfold digTo
  rw [List.map_map, range_get _ _ _ hm]
  exact ⟨_, rfl⟩
/-- the first k of them -/
def digF (T D N k : Nat) : List Int := (List.range k).map fun i => ((digN T D N i : Nat) : Int)
theorem digF_len (T D N k : Nat) : (digF T D N k).length = k := by simp [digF]
theorem digF_succ (T D N k : Nat) : digF T D N (k + 1) = digF T D N k ++ [((digN T D N k : Nat) : Int)] := by
  unfold digF
  rw [List.range_succ, List.map_append]; rfl
theorem dig_inj {T N M : Nat} : ∀ k : Nat, (∀ j, j < k → N / T ^ j % T = M / T ^ j % T) → N % T ^ k = M % T ^ k
  | 0, _ => by rw [Nat.pow_zero, Nat.mod_one, Nat.mod_one]
  | k + 1, h => by rw [Nat.mod_pow_succ, Nat.mod_pow_succ, dig_inj k (fun j hj => h j (by omega)), h k (by omega)]
theorem digL_ne {T D N M : Nat} (hN : N < T ^ D) (hM : M < T ^ D) (h : N ≠ M) : digL T D N ≠ digL T D M := by
  intro e
  refine h ?_
  have := dig_inj (T := T) (N := N) (M := M) D fun j hj => by
    have e1 : (digL T D N)[D - 1 - j]? = (digL T D M)[D - 1 - j]? := by rw [e]
    unfold digL at e1
    rw [range_get _ _ _ (by omega), range_get _ _ _ (by omega)] at e1
    injection e1 with e1
    unfold digN at e1
    rw [show D - 1 - (D - 1 - j) = j by omega] at e1
    omega
  rw [Nat.mod_eq_of_lt hN, Nat.mod_eq_of_lt hM] at this
  exact this
end Go.Proofs.YtagajjilccjplaaGreat
end
section
set_option linter.unusedVariables false
set_option linter.unusedSimpArgs false
/- When two lists of numbers are the same. -/
namespace Go.Proofs.YtagajjilccjplaaGreat
open Go.RowKit
set_option maxRecDepth 100000 in
set_option maxHeartbeats 1000000 in
theorem sameInt_any (w : World) (v1 v2 : Value) (a b : List (Int)) (h1 : RdL w v1 1 encI a) (h2 : RdL w v2 1 encI b) :
    Calls Tryz.prog 24 #[v1, v2] w fun e w' => e = .returned (.bool (decide (a = b))) ∧ Qt w w' := by
  obtain ⟨A1, c1, rfl, l1, m1, r1⟩ := h1
  obtain ⟨A2, c2, rfl, l2, m2, r2⟩ := h2
  by_cases hn : a.length = b.length
  · have hne : ((a.length : Int) == (b.length : Int)) = true := by rw [beq_iff_eq]; omega
    have hne2 : ((a.length : Int) != (b.length : Int)) = false := by rw [bne_eq_false_iff_eq]; omega
    have HN := Lib.hid hn
    clear hn
    go_enter Tryz.func24, Tryz.ntmps24
    go_wp2_with fail
    go_loopw [5] (fun i w' => ∃ k n : Nat, k ≤ a.length ∧ i = .int .i64 k ∧ w' = w.drewN n ∧ a.take k = b.take k) (fun i _ => a.length - (intOf i).toNat)
    case atStart => exact ⟨0, 0, by omega, rfl, rfl, rfl⟩
    case round =>
      obtain ⟨k, n, hk, rfl, rfl, hall⟩ := hrel
      have HA := Lib.hid hall
      clear hall
      by_cases hlt : k < a.length
      · have hlt2 : k < b.length := by have := HN.out; omega
        obtain ⟨b1, o1, rfl, hb1, hc1⟩ := r1 (by omega)
        obtain ⟨b2, o2, rfl, hb2, hc2⟩ := r2 (by omega)
        obtain ⟨x0, hx⟩ := getElem?_lt hlt
        obtain ⟨y0, hy⟩ := getElem?_lt hlt2
        have p0 := hc1 k _ hx 0 _ rfl
        have q0 := hc2 k _ hy 0 _ rfl
        simp only [Nat.add_zero, Nat.mul_one] at p0 q0
        have HX := Lib.hid hx
        have HY := Lib.hid hy
        clear r1 r2 hc1 hc2 hx hy
        by_cases hp : x0 = y0
        · subst hp
          go_wp2
          go_quiet (fail)
          go_wp2
          go_roundw
          case rel => exact ⟨k + 1, n + nq, by omega, by go_num, by first | rfl | rw [World.drewN_drewN], by rw [take_succ_of HX.out, take_succ_of HY.out, HA.out]⟩
          case measure => simp [intOf]; omega
        · have hb : (x0 == y0) = false := by simpa using hp
          have HE := Lib.hid hp
          go_wp2
          go_quiet (fail)
          go_wp2
          go_ret
          refine ⟨ret_bool (Eq.symm (decide_eq_false fun e => HE.out ?_)), n + nq, by first | rfl | rw [World.drewN_drewN]⟩
          have h := HX.out
          rw [e, HY.out] at h
          exact (Option.some.inj h).symm
      · obtain rfl : k = a.length := by omega
        go_wp2
        go_ret
        exact ⟨ret_bool (Eq.symm (decide_eq_true (eq_of_take HN.out HA.out))), n, rfl⟩
  · have hne : ((a.length : Int) == (b.length : Int)) = false := by rw [beq_eq_false_iff_ne]; omega
    have hne2 : ((a.length : Int) != (b.length : Int)) = true := by rw [bne_iff_ne]; omega
    have HN := Lib.hid hn
    clear hn r1 r2
    go_enter Tryz.func24, Tryz.ntmps24
    go_wp2
    go_ret
    exact ⟨ret_bool (Eq.symm (decide_eq_false fun e => HN.out (by rw [e]))), Qt.refl w⟩
end Go.Proofs.YtagajjilccjplaaGreat
end
section
set_option linter.unusedVariables false
set_option linter.unusedSimpArgs false
/- Layer 46: explore.Scripts, explore.Script, and the document's. -/
namespace Go.Proofs.YtagajjilccjplaaGreat
open Go Go.RowKit

set_option maxHeartbeats 1000000 in
theorem scripts_any (w : World) (t d : Int) : Calls Tryz.prog 25 #[.int .i64 t, .int .i64 d] w fun e w' => e = .returned (.int .i64 (scN t d)) ∧ w = w' := by
  by_cases hb : badN t d
  · rw [scN_bad hb]
    by_cases h1 : t < 1
    · go_enter Tryz.func25, Tryz.ntmps25
      go_wp2
      go_ret
      exact ⟨rfl, rfl⟩
    by_cases h2 : 32 < t
    · go_enter Tryz.func25, Tryz.ntmps25
      go_wp2
      go_ret
      exact ⟨rfl, rfl⟩
    by_cases h3 : d < 0
    · go_enter Tryz.func25, Tryz.ntmps25
      go_wp2
      go_ret
      exact ⟨rfl, rfl⟩
    have h4 : 4000 < d := by unfold badN at hb; omega
    go_enter Tryz.func25, Tryz.ntmps25
    go_wp2
    go_ret
    exact ⟨rfl, rfl⟩
  · have hb' : 1 ≤ t ∧ t ≤ 32 ∧ 0 ≤ d ∧ d ≤ 4000 := by unfold badN at hb; omega
    obtain ⟨h1, h2, h3, h4⟩ := hb'
    obtain ⟨T, rfl⟩ := Int.eq_ofNat_of_zero_le (show 0 ≤ t by omega)
    obtain ⟨D, rfl⟩ := Int.eq_ofNat_of_zero_le h3
    have HS := Lib.hid (scN_ok hb)
    clear hb
    have g1 : ¬ (T : Int) < 1 := by omega
    have g2 : ¬ 32 < (T : Int) := by omega
    have g3 : ¬ (D : Int) < 0 := by omega
    have g4 : ¬ 4000 < (D : Int) := by omega
    go_enter Tryz.func25, Tryz.ntmps25
    go_wp2
    go_loopw [5, 21] (fun p i wr => ∃ k n : Nat, i = .int .i64 k ∧ p = .int .i64 n ∧ n = T ^ k ∧ n ≤ 5000 ∧ k ≤ D ∧ w = wr) (fun _ i _ => D - (intOf i).toNat)
    case atStart => exact ⟨0, 1, rfl, rfl, rfl, by omega, by omega, rfl⟩
    case round =>
      obtain ⟨k, n, rfl, rfl, hn, hn5, hk, rfl⟩ := hrel
      have HN := Lib.hid hn
      clear hn
      by_cases hlt : k < D
      · obtain ⟨q, hq⟩ : ∃ q, q = n * T := ⟨_, rfl⟩
        have hq1 : q = T ^ (k + 1) := by rw [hq, HN.out, Nat.pow_succ]
        have hq2 : q ≤ 5000 * 32 := by rw [hq]; exact Nat.mul_le_mul hn5 (by omega)
        have xm : IntKind.i64.wrap ((n : Int) * (T : Int)) = (q : Int) := by
          rw [hq, Int.natCast_mul]
          refine IntWalk.i64_in _ ?_
          rw [← Int.natCast_mul, ← hq]
          omega
        have HQ := Lib.hid hq1
        clear hq hq1
        by_cases h5 : 5000 < q
        · have h5' : 5000 < (q : Int) := by omega
          have HZ : Hid (scN (T : Int) (D : Int) = 0) := Lib.hid (by
            rw [HS.out, if_pos]
            have := pow_up (T := T) (by omega) (show k + 1 ≤ D by omega)
            have := HQ.out
            omega)
          go_wp2
          go_ret
          rw [HZ.out]
          exact ⟨rfl, rfl⟩
        · have h5' : ¬ 5000 < (q : Int) := by omega
          go_wp2
          go_roundw
          case rel => exact ⟨k + 1, q, by go_num, rfl, HQ.out, by omega, by omega, trivial⟩
          case measure => simp [intOf]; omega
      · obtain rfl : k = D := by omega
        have HZ : Hid (scN (T : Int) (k : Int) = (n : Int)) := Lib.hid (by rw [HS.out, ← HN.out, if_neg (by omega)])
        go_wp2
        go_ret
        rw [HZ.out]
        exact ⟨rfl, rfl⟩
end Go.Proofs.YtagajjilccjplaaGreat
end
section
set_option linter.unusedVariables false
set_option linter.unusedSimpArgs false
/- Layer 46: explore.Script. -/
namespace Go.Proofs.YtagajjilccjplaaGreat
open Go Go.RowKit

/-- what a number's script wants: small numbers -/
structure ScOk (T D N : Nat) : Prop where
  t : 1 ≤ T ∧ T ≤ 32
  d : D ≤ 4000
  n : N < T ^ D
  p : T ^ D ≤ 5000
theorem scOk_of {t d n : Int} (h : ¬ (n < 0 ∨ scN t d ≤ n)) : ∃ T D N : Nat, t = T ∧ d = D ∧ n = N ∧ ScOk T D N ∧ scN t d = ((T ^ D : Nat) : Int) := by
  by_cases hb : badN t d
  · rw [scN_bad hb] at h; omega
  have hb' : 1 ≤ t ∧ t ≤ 32 ∧ 0 ≤ d ∧ d ≤ 4000 := by unfold badN at hb; omega
  obtain ⟨T, rfl⟩ := Int.eq_ofNat_of_zero_le (show 0 ≤ t by omega)
  obtain ⟨D, rfl⟩ := Int.eq_ofNat_of_zero_le (show 0 ≤ d by omega)
  obtain ⟨N, rfl⟩ := Int.eq_ofNat_of_zero_le (show 0 ≤ n by omega)
  have hs := scN_ok hb
  by_cases h5 : 5000 < T ^ D
  · rw [if_pos h5] at hs; omega
  · rw [if_neg h5] at hs
    exact ⟨T, D, N, rfl, rfl, rfl, ⟨by omega, by omega, by omega, by omega⟩, hs⟩
set_option maxHeartbeats 1000000 in
theorem script_no (w : World) (t d n : Int) (h : n < 0 ∨ scN t d ≤ n) : Calls Tryz.prog 22 #[.int .i64 t, .int .i64 d, .int .i64 n] w fun e w' => e = .returned (.tuple #[.slice none 0 0, .bool false]) ∧ w = w' := by
  have HS := Lib.hid (scripts_any w t d)
  by_cases h0 : n < 0
  · clear h
    go_enter Tryz.func22, Tryz.ntmps22
    go_wp2
    go_ret2
    exact ⟨rfl, rfl⟩
  · have h1 : scN t d ≤ n := by omega
    obtain ⟨z, hz⟩ : ∃ z, z = scN t d := ⟨_, rfl⟩
    rw [← hz] at HS h1
    clear h hz
    go_enter Tryz.func22, Tryz.ntmps22
    go_wp2_with fail
    refine HS.out.mono ?_
    rintro en w' ⟨rfl, rfl⟩
    go_wp2
    go_ret2
    exact ⟨rfl, rfl⟩
set_option maxRecDepth 100000 in
set_option maxHeartbeats 2000000 in
theorem script_is (w : World) (T D N : Nat) (h : ScOk T D N) : Calls Tryz.prog 22 #[.int .i64 T, .int .i64 D, .int .i64 N] w fun e w' => ∃ v, e = .returned (.tuple #[v, .bool true]) ∧ RdL w' v 1 encI (digL T D N) ∧ Below w.heap.size w w' := by
  obtain ⟨i0, hi, hz0, hz1, hz2⟩ := info_parts Tryz.infoIn
  obtain ⟨⟨t1, t2⟩, d1, n1, p1⟩ := h
  have hb : ¬ badN (T : Int) (D : Int) := by unfold badN; omega
  have hsc := scN_ok hb
  rw [if_neg (by omega)] at hsc
  have HS := Lib.hid (scripts_any w T D)
  rw [hsc] at HS
  obtain ⟨pw, hpw⟩ : ∃ pw, pw = T ^ D := ⟨_, rfl⟩
  rw [← hpw] at HS n1 p1
  have hN : N < 5000 := by omega
  have u1 : ¬ (N : Int) < 0 := by omega
  have u2 : ¬ (pw : Int) ≤ (N : Int) := by omega
  clear hb hsc hpw
  go_enter Tryz.func22, Tryz.ntmps22
  go_wp2_with fail
  refine HS.out.mono ?_
  rintro en w' ⟨rfl, rfl⟩
  go_wp2_with (refine wpList_make_full _ rfl (.tmp 19) (.tmp 19) 28 rfl w.heap.size 3 i0 (.int .i64 0) 1 Tryz.underlying28 hi hz0 hz1 .i64 .i64 D D D rfl rfl rfl rfl ?b2 ?b3 (Nat.le_refl _) ?_)
  case b2 => rw [hz2]; omega
  case b3 => unfold maxLen; omega
  intro w1 hown hg
  have hown1 : w1.ownsRow w.heap.size 3 1 (.slice (some ⟨w.heap.size, 0, none⟩) D D) D ((digTo T D N 0).flatMap encI) := by
    have e : (madeCells #[Value.int .i64 0] D).toList = (digTo T D N 0).flatMap encI := by
      rw [made_const, flatI]
      unfold digTo
      rw [List.map_map]
      refine List.map_congr_left fun i hi => ?_
      have := List.mem_range.1 hi
      show _ = Value.int .i64 (if D - 0 ≤ i then _ else _)
      rw [if_neg (by omega)]
    rw [e] at hown; exact hown
  have hb1 : Below w.heap.size w w1 := (Below.refl w.heap.size w).grown hg (Nat.le_refl _) (fun j hj => by cases hj)
  clear hown hg
  go_wp2
  go_loopw [2, 9] (fun q i wr => ∃ k m : Nat, k ≤ D ∧ m = D - k ∧ i = .int .i64 ((m : Int) - 1) ∧ q = .int .i64 ((N / T ^ k : Nat) : Int) ∧ wr.ownsRow w.heap.size 3 1 (.slice (some ⟨w.heap.size, 0, none⟩) D D) D ((digTo T D N k).flatMap encI) ∧ Below w.heap.size w wr) (fun _ i _ => (intOf i + 1).toNat)
  case atStart => exact ⟨0, D, by omega, by omega, rfl, by rw [Nat.pow_zero, Nat.div_one], hown1, hb1⟩
  case round =>
    clear hown1 hb1
    obtain ⟨k, m, hk, hm, rfl, rfl, hown, hbel⟩ := hrel
    obtain ⟨q, hq⟩ : ∃ q, q = N / T ^ k := ⟨_, rfl⟩
    rw [← hq]
    have hqN : q ≤ N := by rw [hq]; exact Nat.div_le_self _ _
    by_cases hlt : k < D
    · obtain ⟨j, rfl⟩ : ∃ j, m = j + 1 := ⟨m - 1, by omega⟩
      have ej : (((j + 1 : Nat) : Int) - 1) = (j : Int) := by omega
      rw [ej]
      have hj : j < D := by omega
      have hjk : D - 1 - k = j := by omega
      have f0 := hown.frozenAt j
      have g0 := hown.cellAt j (by omega)
      have hgl := (hown.lt _ rfl).2
      have hst := hown.stored j (.int .i64 ((q : Int) % (T : Int)))
      obtain ⟨x, hu⟩ := digTo_get T D N k j hj
      rw [hu] at g0
      have HN : Hid (∀ W : World, W.ownsRow w.heap.size 3 1 (.slice (some ⟨w.heap.size, 0, none⟩) D D) D (((digTo T D N k).flatMap encI).set j (.int .i64 ((q : Int) % (T : Int)))) → W.ownsRow w.heap.size 3 1 (.slice (some ⟨w.heap.size, 0, none⟩) D D) D ((digTo T D N (k + 1)).flatMap encI)) := Lib.hid fun W hW => by
        rw [← hjk, digTo_set T D N k hlt _ (by rw [hq, Int.natCast_emod])] at hW
        exact hW
      have HB := Lib.hid (And.intro hst hbel)
      have HW : Hid (wrap64 ((q : Int) / (T : Int)) = ((q / T : Nat) : Int)) := Lib.hid (by
        rw [← Int.natCast_ediv]
        have hy := Nat.div_le_self q T
        obtain ⟨y, hyy⟩ : ∃ y, y = q / T := ⟨_, rfl⟩
        rw [← hyy] at hy ⊢
        exact IntWalk.wrap64_in _ (by omega))
      have HM := Lib.hid hm
      have hT0 : ¬ (T : Int) = 0 := by omega
      have HE : Hid (q / T = N / T ^ (k + 1)) := Lib.hid (by rw [hq, Nat.div_div_eq_div_mul, Nat.pow_succ])
      clear hu hst hbel hown hq hm hjk ej
      go_wp2
      go_roundw
      case rel => exact ⟨k + 1, j, by omega, by have := HM.out; omega, by go_num, by rw [← HE.out, ← HW.out], HN.out _ HB.out.1.1, HB.out.2.setCell (Nat.le_refl _) _⟩
      case measure => simp [intOf]
    · obtain rfl : k = D := by omega
      obtain rfl : m = 0 := by omega
      clear hm
      rw [show (((0 : Nat) : Int) - 1) = -1 from rfl]
      have HB := Lib.hid (And.intro hown hbel)
      clear hown hbel hq
      go_wp2
      go_ret2
      refine ⟨_, rfl, ?_, HB.out.2⟩
      rw [← digTo_all]
      exact RdL.of_own encI_len (digTo_len T k N k).symm (by rw [digTo_len]; omega) HB.out.1
end Go.Proofs.YtagajjilccjplaaGreat
end
section
set_option linter.unusedVariables false
set_option linter.unusedSimpArgs false
/- Layer 46: the document's Scripts and Script. -/
namespace Go.Proofs.YtagajjilccjplaaGreat
open Go Go.RowKit

set_option maxHeartbeats 1000000 in
theorem rscripts_any (w : World) (t d : Int) : Calls Tryz.prog 26 #[.int .i64 t, .int .i64 d] w fun e w' => e = .returned (.int .i64 (scN t d)) ∧ w = w' := by
  by_cases hb : badN t d
  · rw [scN_bad hb]
    by_cases h1 : t < 1
    · go_enter Tryz.func26, Tryz.ntmps26
      go_wp2
      go_ret
      exact ⟨rfl, rfl⟩
    by_cases h2 : 32 < t
    · go_enter Tryz.func26, Tryz.ntmps26
      go_wp2
      go_ret
      exact ⟨rfl, rfl⟩
    by_cases h3 : d < 0
    · go_enter Tryz.func26, Tryz.ntmps26
      go_wp2
      go_ret
      exact ⟨rfl, rfl⟩
    have h4 : 4000 < d := by unfold badN at hb; omega
    go_enter Tryz.func26, Tryz.ntmps26
    go_wp2
    go_ret
    exact ⟨rfl, rfl⟩
  · have hb' : 1 ≤ t ∧ t ≤ 32 ∧ 0 ≤ d ∧ d ≤ 4000 := by unfold badN at hb; omega
    obtain ⟨h1, h2, h3, h4⟩ := hb'
    obtain ⟨T, rfl⟩ := Int.eq_ofNat_of_zero_le (show 0 ≤ t by omega)
    obtain ⟨D, rfl⟩ := Int.eq_ofNat_of_zero_le h3
    have HS := Lib.hid (scN_ok hb)
    clear hb
    have g1 : ¬ (T : Int) < 1 := by omega
    have g2 : ¬ 32 < (T : Int) := by omega
    have g3 : ¬ (D : Int) < 0 := by omega
    have g4 : ¬ 4000 < (D : Int) := by omega
    go_enter Tryz.func26, Tryz.ntmps26
    go_wp2
    go_loopw [5, 6] (fun p i wr => ∃ k n : Nat, i = .int .i64 k ∧ p = .int .i64 n ∧ n = T ^ k ∧ n ≤ 160000 ∧ k ≤ D ∧ w = wr) (fun _ i _ => D - (intOf i).toNat)
    case atStart => exact ⟨0, 1, rfl, rfl, rfl, by omega, by omega, rfl⟩
    case round =>
      obtain ⟨k, n, rfl, rfl, hn, hn5, hk, rfl⟩ := hrel
      have HN := Lib.hid hn
      clear hn
      by_cases hlt : k < D
      · by_cases h5 : 5000 < n
        · have h5' : 5000 < (n : Int) := by omega
          have h6 : decide ((n : Int) ≤ 5000) = false := decide_eq_false (by omega)
          have HZ : Hid (scN (T : Int) (D : Int) = 0) := Lib.hid (by
            rw [HS.out, if_pos]
            have := pow_up (T := T) (by omega) (show k ≤ D by omega)
            have := HN.out
            omega)
          go_wp2
          go_ret
          rw [HZ.out]
          exact ⟨rfl, rfl⟩
        · obtain ⟨q, hq⟩ : ∃ q, q = n * T := ⟨_, rfl⟩
          have hq1 : q = T ^ (k + 1) := by rw [hq, HN.out, Nat.pow_succ]
          have hq2 : q ≤ 5000 * 32 := by rw [hq]; exact Nat.mul_le_mul (by omega) (by omega)
          have xm : IntKind.i64.wrap ((n : Int) * (T : Int)) = (q : Int) := by
            rw [hq, Int.natCast_mul]
            refine IntWalk.i64_in _ ?_
            rw [← Int.natCast_mul, ← hq]
            omega
          have HQ := Lib.hid hq1
          have h6 : decide ((n : Int) ≤ 5000) = true := decide_eq_true (by omega)
          clear hq hq1
          go_wp2
          go_roundw
          case rel => exact ⟨k + 1, q, by go_num, rfl, HQ.out, by omega, by omega, trivial⟩
          case measure => simp [intOf]; omega
      · obtain rfl : k = D := by omega
        by_cases h5 : 5000 < n
        · have h5' : 5000 < (n : Int) := by omega
          have HZ : Hid (scN (T : Int) (k : Int) = 0) := Lib.hid (by
            rw [HS.out, if_pos]
            have := HN.out
            omega)
          go_wp2
          go_ret
          rw [HZ.out]
          exact ⟨rfl, rfl⟩
        · have h5' : ¬ 5000 < (n : Int) := by omega
          have HZ : Hid (scN (T : Int) (k : Int) = (n : Int)) := Lib.hid (by rw [HS.out, ← HN.out, if_neg (by omega)])
          go_wp2
          go_ret
          rw [HZ.out]
          exact ⟨rfl, rfl⟩
set_option maxHeartbeats 1000000 in
theorem rscript_no (w : World) (t d n : Int) (h : n < 0 ∨ scN t d ≤ n) : Calls Tryz.prog 23 #[.int .i64 t, .int .i64 d, .int .i64 n] w fun e w' => e = .returned (.tuple #[.slice none 0 0, .bool false]) ∧ w = w' := by
  have HS := Lib.hid (rscripts_any w t d)
  by_cases h0 : n < 0
  · clear h
    go_enter Tryz.func23, Tryz.ntmps23
    go_wp2
    go_ret2
    exact ⟨rfl, rfl⟩
  · have h1 : scN t d ≤ n := by omega
    obtain ⟨z, hz⟩ : ∃ z, z = scN t d := ⟨_, rfl⟩
    rw [← hz] at HS h1
    clear h hz
    go_enter Tryz.func23, Tryz.ntmps23
    go_wp2_with fail
    refine HS.out.mono ?_
    rintro en w' ⟨rfl, rfl⟩
    go_wp2
    go_ret2
    exact ⟨rfl, rfl⟩
set_option maxRecDepth 100000 in
set_option maxHeartbeats 2000000 in
theorem rscript_is (w : World) (T D N : Nat) (h : ScOk T D N) : Calls Tryz.prog 23 #[.int .i64 T, .int .i64 D, .int .i64 N] w fun e w' => ∃ v, e = .returned (.tuple #[v, .bool true]) ∧ RdL w' v 1 encI (digL T D N) ∧ Below w.heap.size w w' := by
  obtain ⟨i0, hi, hz0, hz1, hz2⟩ := info_parts Tryz.infoIn
  obtain ⟨⟨t1, t2⟩, d1, n1, p1⟩ := h
  have hb : ¬ badN (T : Int) (D : Int) := by unfold badN; omega
  have hsc := scN_ok hb
  rw [if_neg (by omega)] at hsc
  have HS := Lib.hid (rscripts_any w T D)
  rw [hsc] at HS
  have HP : Hid (∀ j, j ≤ D → T ^ j ≤ 5000) := Lib.hid fun j hj => Nat.le_trans (pow_up t1 hj) p1
  obtain ⟨pw, hpw⟩ : ∃ pw, pw = T ^ D := ⟨_, rfl⟩
  rw [← hpw] at HS n1 p1
  have hN : N < 5000 := by omega
  have u1 : ¬ (N : Int) < 0 := by omega
  have u2 : ¬ (pw : Int) ≤ (N : Int) := by omega
  have u3 : decide (pw ≤ N) = false := decide_eq_false (by omega)
  have HI := Lib.hid (And.intro hi (And.intro hz0 (And.intro hz1 hz2)))
  clear hb hsc hpw hi hz0 hz1 hz2
  go_enter Tryz.func23, Tryz.ntmps23
  go_wp2_with fail
  refine HS.out.mono ?_
  rintro en w' ⟨rfl, rfl⟩
  go_wp2
  go_loopw [8, 9, 10, 11] (fun o i _ _ wr => ∃ k : Nat, i = .int .i64 k ∧ k ≤ D ∧ wr.ownsRow w.heap.size 3 1 o (digF T D N k).length ((digF T D N k).flatMap encI) ∧ Below w.heap.size w wr) (fun _ i _ _ _ => D - (intOf i).toNat)
  case atStart => exact ⟨0, rfl, by omega, World.ownsRow_nil _ _ _ _, Below.refl _ _⟩
  case round =>
    obtain ⟨k, rfl, hk, hown, hbel⟩ := hrel
    obtain ⟨wo, rfl⟩ : ∃ wo : World, wo = wr := ⟨_, rfl⟩
    by_cases hlt : k < D
    · have hsz := hbel.size
      have HS2 := Lib.hid (digF_succ T D N k)
      have HO := Lib.hid (And.intro hown hbel)
      obtain ⟨A9, c9, rfl⟩ := own_form hown
      clear hbel hown
      go_wp2
      go_loopw [10, 11] (fun b j wr => ∃ m q : Nat, j = .int .i64 ((k + 1 + m : Nat) : Int) ∧ b = .int .i64 q ∧ q = T ^ m ∧ k + 1 + m ≤ D ∧ wo = wr) (fun _ j _ => D - (intOf j).toNat)
      case atStart => exact ⟨0, 1, by go_num, rfl, rfl, by omega, rfl⟩
      case round =>
        obtain ⟨m, q, rfl, rfl, hq, hm, rfl⟩ := hrel
        obtain ⟨j, hj⟩ : ∃ j, j = k + 1 + m := ⟨_, rfl⟩
        rw [← hj] at hm ⊢
        have hq5 : q ≤ 5000 := by rw [hq]; exact HP.out m (by omega)
        have hq1 : 1 ≤ q := by rw [hq]; exact pow_one t1
        have HQ := Lib.hid hq
        have HJ := Lib.hid hj
        clear hq hj
        by_cases hjd : j < D
        · obtain ⟨p, hp⟩ : ∃ p, p = q * T := ⟨_, rfl⟩
          have HPP : Hid (p = T ^ (m + 1)) := Lib.hid (by rw [hp, HQ.out, Nat.pow_succ])
          have hp2 : p ≤ 5000 * 32 := by rw [hp]; exact Nat.mul_le_mul (by omega) (by omega)
          have xm : IntKind.i64.wrap ((q : Int) * (T : Int)) = (p : Int) := by
            rw [hp, Int.natCast_mul]
            refine IntWalk.i64_in _ ?_
            rw [← Int.natCast_mul, ← hp]
            omega
          clear hp
          go_wp2
          go_roundw
          case rel => exact ⟨m + 1, p, by have := HJ.out; go_num, rfl, HPP.out, by have := HJ.out; omega, trivial⟩
          case measure => simp [intOf]; omega
        · have HD : Hid ((((N / q) % T : Nat) : Int) = ((digN T D N k : Nat) : Int)) := Lib.hid (by
            unfold digN
            have := HJ.out
            rw [HQ.out, show D - 1 - k = m by omega])
          have hq0 : ¬ (q : Int) = 0 := by omega
          have hT0 : ¬ (T : Int) = 0 := by omega
          have b2 : (N : Int) / (q : Int) ≤ 5000 := by
            have hyN : N / q ≤ 5000 := Nat.le_trans (Nat.div_le_self N q) (by omega)
            have hy2 := Int.ofNat_le.2 hyN
            rwa [Int.natCast_ediv] at hy2
          have b1 : 0 ≤ (N : Int) / (q : Int) := by
            rw [← Int.natCast_ediv]
            exact Int.natCast_nonneg _
          go_wp2_with (at_builtin; refine wpList_append_own _ rfl _ _ 28 rfl w.heap.size 3 i0 (.int .i64 0) 1 8 Tryz.underlying28 HI.out.1 HI.out.2.1 HI.out.2.2.1 HI.out.2.2.2 rfl (by decide) _ _ _ rfl (HO.out.1.alloc _) ⟨wo.heap.size, 0, none⟩ 1 1 (encI ((N : Int) / (q : Int) % (T : Int))) rfl rfl (cell_one_new _ _ _) (one_enc _) ?c3 ?c4 ?c5 ?_)
          case c3 => have hll := digF_len T D N k; unfold maxLen; omega
          case c4 => have hll := digF_len T D N k; omega
          case c5 => simp; omega
          intro v' w' hown' hgrow hnil
          have HN := Lib.hid (And.intro hown' hgrow)
          clear hown' hgrow hnil
          go_wp2
          go_roundw
          case rel => exact ⟨k + 1, by go_num, by omega, by rw [HS2.out, flat_snoc, List.length_append, ← HD.out, Int.natCast_emod, Int.natCast_ediv]; exact HN.out.1, (HO.out.2.alloc hsz _).grown HN.out.2 (by simp; omega) (fun j hj => (HO.out.1.lt j hj).1)⟩
          case measure => simp [intOf]; omega
    · obtain rfl : k = D := by omega
      have HO := Lib.hid (And.intro hown hbel)
      clear hown hbel
      go_wp2
      go_ret2
      refine ⟨_, rfl, ?_, HO.out.2⟩
      have e : digL T k N = digF T k N k := rfl
      rw [e]
      exact own_rdl HO.out.1 (by rw [digF_len]; omega)
end Go.Proofs.YtagajjilccjplaaGreat
end
section
set_option linter.unusedVariables false
set_option linter.unusedSimpArgs false
/- Running closed code: plain data that stands for values and memory, by names in the place of blocks; what it means for such data to be what a world holds. No program in sight. -/
namespace Go.Proofs.YtagajjilccjplaaGreat
open Go.RowKit

/-! ### A tree of numbers -/
inductive Tr (α : Type) where
  | nil
  | nd (x : Option α) (l r : Tr α)
namespace Tr
variable {α : Type}
def get : Tr α → Nat → Option α
  | nil, _ => none
  | nd x l r, k => bif Nat.beq k 0 then x else bif Nat.beq (k % 2) 1 then l.get (k / 2) else r.get (k / 2 - 1)
def single : Nat → Nat → α → Tr α
  | 0, _, v => nd (some v) nil nil
  | f + 1, k, v => bif Nat.beq k 0 then nd (some v) nil nil else bif Nat.beq (k % 2) 1 then nd none (single f (k / 2) v) nil else nd none nil (single f (k / 2 - 1) v)
def set : Tr α → Nat → α → Tr α
  | nil, k, v => single k k v
  | nd x l r, k, v => bif Nat.beq k 0 then nd (some v) l r else bif Nat.beq (k % 2) 1 then nd x (l.set (k / 2) v) r else nd x l (r.set (k / 2 - 1) v)
def del : Tr α → Nat → Tr α
  | nil, _ => nil
  | nd x l r, k => bif Nat.beq k 0 then nd none l r else bif Nat.beq (k % 2) 1 then nd x (l.del (k / 2)) r else nd x l (r.del (k / 2 - 1))
theorem beqd (a b : Nat) : Nat.beq a b = decide (a = b) := by
  rw [Bool.eq_iff_iff, Nat.beq_eq]; simp
theorem get_single (v : α) : ∀ (f k : Nat), k ≤ f → ∀ j, (single f k v).get j = if j = k then some v else none
  | 0, k, h, j => by
    obtain rfl : k = 0 := by omega
    simp only [single, get, beqd]
    by_cases hj : j = 0 <;> simp [hj]
  | f + 1, k, h, j => by
    simp only [single, beqd]
    by_cases hk : k = 0
    · subst hk
      by_cases hj : j = 0 <;> simp [get, hj, beqd]
    · by_cases ho : k % 2 = 1
      · simp only [hk, ho, decide_false, decide_true, cond_false, cond_true, get, beqd]
        rw [get_single v f (k / 2) (by omega)]
        by_cases hj : j = 0
        · have : ¬ j = k := by omega
          simp [hj]; omega
        · by_cases hjo : j % 2 = 1
          · simp only [hj, hjo, decide_false, decide_true, cond_false, cond_true]
            by_cases e : j = k
            · subst e; simp
            · rw [if_neg (by omega), if_neg e]
          · simp only [hj, hjo, decide_false, cond_false]
            rw [if_neg (by omega)]
      · simp only [hk, ho, decide_false, cond_false, get, beqd]
        rw [get_single v f (k / 2 - 1) (by omega)]
        by_cases hj : j = 0
        · simp [hj]; omega
        · by_cases hjo : j % 2 = 1
          · simp only [hj, hjo, decide_false, decide_true, cond_false, cond_true]
            rw [if_neg (by omega)]
          · simp only [hj, hjo, decide_false, cond_false]
            by_cases e : j = k
            · subst e; simp
            · rw [if_neg (by omega), if_neg e]
theorem get_set (v : α) : ∀ (t : Tr α) (k j : Nat), (t.set k v).get j = if j = k then some v else t.get j
  | nil, k, j => by
    show (single k k v).get j = _
    rw [get_single v k k (Nat.le_refl _) j]; rfl
  | nd x l r, k, j => by
    simp only [set, beqd]
    by_cases hk : k = 0
    · subst hk
      by_cases hj : j = 0 <;> simp [get, hj, beqd]
    · by_cases ho : k % 2 = 1
      · simp only [hk, ho, decide_false, decide_true, cond_false, cond_true, get, beqd]
        by_cases hj : j = 0
        · simp [hj]; omega
        · by_cases hjo : j % 2 = 1
          · simp only [hj, hjo, decide_false, decide_true, cond_false, cond_true]
            rw [get_set v l]
            by_cases e : j = k
            · subst e; simp
            · rw [if_neg (by omega), if_neg e]
          · simp only [hj, hjo, decide_false, cond_false]
            rw [if_neg (by omega)]
      · simp only [hk, ho, decide_false, cond_false, get, beqd]
        by_cases hj : j = 0
        · simp [hj]; omega
        · by_cases hjo : j % 2 = 1
          · simp only [hj, hjo, decide_false, decide_true, cond_false, cond_true]
            rw [if_neg (by omega)]
          · simp only [hj, hjo, decide_false, cond_false]
            rw [get_set v r]
            by_cases e : j = k
            · subst e; simp
            · rw [if_neg (by omega), if_neg e]
theorem get_del : ∀ (t : Tr α) (k j : Nat), (t.del k).get j = if j = k then none else t.get j
  | nil, k, j => by simp [del, get]
  | nd x l r, k, j => by
    simp only [del, beqd]
    by_cases hk : k = 0
    · subst hk
      by_cases hj : j = 0 <;> simp [get, hj, beqd]
    · by_cases ho : k % 2 = 1
      · simp only [hk, ho, decide_false, decide_true, cond_false, cond_true, get, beqd]
        by_cases hj : j = 0
        · simp [hj]; omega
        · by_cases hjo : j % 2 = 1
          · simp only [hj, hjo, decide_false, decide_true, cond_false, cond_true]
            rw [get_del l]
            by_cases e : j = k
            · subst e; simp
            · rw [if_neg (by omega), if_neg e]
          · simp only [hj, hjo, decide_false, cond_false]
            rw [if_neg (by omega)]
      · simp only [hk, ho, decide_false, cond_false, get, beqd]
        by_cases hj : j = 0
        · simp [hj]; omega
        · by_cases hjo : j % 2 = 1
          · simp only [hj, hjo, decide_false, decide_true, cond_false, cond_true]
            rw [if_neg (by omega)]
          · simp only [hj, hjo, decide_false, cond_false]
            rw [get_del r]
            by_cases e : j = k
            · subst e; simp
            · rw [if_neg (by omega), if_neg e]
end Tr

/-! ### Values by names -/
/-- a slice's capacity: known, or what its block has room for (cells an element) -/
inductive Cp where
  | k (c : Nat)
  | u (es : Nat)
/-- what one cell holds -/
inductive C where
  | b (x : Bool)
  | i (k : IntKind) (n : Int)
  | s (x : ByteArray)
  | p (x : Option (Nat × Nat))
  | l (x : Option (Nat × Nat)) (n : Nat) (c : Cp)
  | f (fn : Nat) (first cap : List (Nat × Nat))
  | nf
  | ni
  /-- a map: nil, or its block's name -/
  | m (x : Option Nat)
  /-- a number that is not known: its name, and what is known of it (an operator's code, a number, the answer) -/
  | o (k : Nat) (f : List (Nat × Int × Bool))
  /-- an interface's value: a cell, or a struct of one cell -/
  | d (t : TypeId) (agg : Bool) (x : C)
/-- a cell, or a struct's or an array's cells -/
inductive Wv where
  | c (x : C)
  | a (cs : List C)
/-- a value of a temporary -/
inductive V where
  | w (x : Wv)
  | t (xs : List Wv)
/-- names' blocks, and how many cells these have -/
abbrev Nm := Nat → Option (Nat × Nat)
def Nm.le (r s : Nm) : Prop := ∀ k x, r k = some x → s k = some x
theorem Nm.le_refl (r : Nm) : r.le r := fun _ _ h => h
theorem Nm.le_trans {r s t : Nm} (h : r.le s) (k : s.le t) : r.le t := fun _ _ e => k _ _ (h _ _ e)
def ptrOf (b o : Nat) : Value := .pointer (some ⟨b, o, none⟩)
inductive AR (r : Nm) : List (Nat × Nat) → List Value → Prop where
  | nil : AR r [] []
  | cons {k o b sz xs vs} (h : r k = some (b, sz)) (t : AR r xs vs) : AR r ((k, o) :: xs) (ptrOf b o :: vs)
/-- a number that is not known stands for this one -/
def oV (b sz : Nat) : Int := if sz = 0 then (b : Int) else -(b : Int)
def cmpC : Nat → Int → Int → Option Bool
  | 0, x, y => some (x == y)
  | 1, x, y => some (x != y)
  | 2, x, y => some (decide (x < y))
  | 3, x, y => some (decide (x ≤ y))
  | 4, x, y => some (decide (x > y))
  | 5, x, y => some (decide (x ≥ y))
  | _, _, _ => none
inductive CR (r : Nm) : C → Value → Prop where
  | b (x) : CR r (.b x) (.bool x)
  | i (k n) : CR r (.i k n) (.int k n)
  | s (x) : CR r (.s x) (.string x)
  | p0 : CR r (.p none) (.pointer none)
  | p {k o b sz} (h : r k = some (b, sz)) : CR r (.p (some (k, o))) (ptrOf b o)
  | l0 (n c) : CR r (.l none n (.k c)) (.slice none n c)
  | l {k o b sz} (n c) (h : r k = some (b, sz)) : CR r (.l (some (k, o)) n (.k c)) (.slice (some ⟨b, o, none⟩) n c)
  | u {k o b sz} (n c es) (h : r k = some (b, sz)) (h1 : n ≤ c) (h2 : c ≤ maxLen) (h3 : o + c * es = sz) : CR r (.l (some (k, o)) n (.u es)) (.slice (some ⟨b, o, none⟩) n c)
  | f (fn) {a c va vc} (ha : AR r a va) (hc : AR r c vc) : CR r (.f fn a c) (.func (.func fn) va.toArray vc.toArray)
  | nf : CR r .nf .nilFunc
  | ni : CR r .ni .nilIface
  | m0 : CR r (.m none) (.map none)
  | m {k b sz} (h : r k = some (b, sz)) : CR r (.m (some k)) (.map (some b))
  | o {k b sz f} (h : r k = some (b, sz)) (hf : ∀ x ∈ f, cmpC x.1 (oV b sz) x.2.1 = some x.2.2) : CR r (.o k f) (.int .i64 (oV b sz))
  | d (t) {c v} (h : CR r c v) : CR r (.d t false c) (.iface t v)
  | da (t) {c v} (h : CR r c v) : CR r (.d t true c) (.iface t (.agg #[v]))
inductive CsR (r : Nm) : List C → List Value → Prop where
  | nil : CsR r [] []
  | cons {c v cs vs} (h : CR r c v) (t : CsR r cs vs) : CsR r (c :: cs) (v :: vs)
inductive WR (r : Nm) : Wv → Value → Prop where
  | c {x v} (h : CR r x v) : WR r (.c x) v
  | a {cs vs} (h : CsR r cs vs) : WR r (.a cs) (.agg vs.toArray)
inductive WsR (r : Nm) : List Wv → List Value → Prop where
  | nil : WsR r [] []
  | cons {c v cs vs} (h : WR r c v) (t : WsR r cs vs) : WsR r (c :: cs) (v :: vs)
inductive VR (r : Nm) : V → Value → Prop where
  | w {x v} (h : WR r x v) : VR r (.w x) v
  | t {xs vs} (h : WsR r xs vs) : VR r (.t xs) (.tuple vs.toArray)
section mono
variable {r s : Nm} (h : r.le s)
include h
theorem AR.mono {x v} (k : AR r x v) : AR s x v := by
  induction k with
  | nil => exact .nil
  | cons e _ ih => exact .cons (h _ _ e) ih
theorem CR.mono {x v} (k : CR r x v) : CR s x v := by
  induction k with
  | b => exact .b _
  | i => exact .i _ _
  | s => exact .s _
  | p0 => exact .p0
  | p e => exact .p (h _ _ e)
  | l0 => exact .l0 _ _
  | l n c e => exact .l n c (h _ _ e)
  | u n c es e h1 h2 h3 => exact .u n c es (h _ _ e) h1 h2 h3
  | f fn ha hc => exact .f fn (ha.mono h) (hc.mono h)
  | nf => exact .nf
  | ni => exact .ni
  | m0 => exact .m0
  | m e => exact .m (h _ _ e)
  | o e hf => exact .o (h _ _ e) hf
  | d t _ ih => exact .d t ih
  | da t _ ih => exact .da t ih
theorem CsR.mono {x v} (k : CsR r x v) : CsR s x v := by
  induction k with
  | nil => exact .nil
  | cons e _ ih => exact .cons (e.mono h) ih
theorem WR.mono {x v} (k : WR r x v) : WR s x v := by
  cases k with
  | c e => exact .c (e.mono h)
  | a e => exact .a (e.mono h)
theorem WsR.mono {x v} (k : WsR r x v) : WsR s x v := by
  induction k with
  | nil => exact .nil
  | cons e _ ih => exact .cons (e.mono h) ih
theorem VR.mono {x v} (k : VR r x v) : VR s x v := by
  cases k with
  | w e => exact .w (e.mono h)
  | t e => exact .t (e.mono h)
end mono

/-! ### Memory by names -/
structure Bk where
  e : TypeId
  n : Nat
  /-- what a cell holds that u does not name: this pattern, again and again -/
  d : List C
  u : Tr C
  /-- a map's entries: whole numbers, and what is there -/
  mp : Option (List (C × C))
def Bk.cell (b : Bk) (j : Nat) : C := match b.u.get j with
  | some c => c
  | none => b.d.getD (j % b.d.length) .ni
abbrev Hp := Tr Bk
/-- what a block holds, as far as it is known -/
inductive MR (r : Nm) : List (C × C) → List MapEntry → Prop where
  | nil : MR r [] []
  | cons {k c e l es} (hk : CR r k e.key) (h : CR r c e.val) (t : MR r l es) : MR r ((k, c) :: l) (e :: es)
theorem MR.mono {r s : Nm} (h : r.le s) {l es} (k : MR r l es) : MR s l es := by
  induction k with
  | nil => exact .nil
  | cons hk e _ ih => exact .cons (hk.mono h) (e.mono h) ih
structure BR (r : Nm) (w : World) (B : Bk) (b sz : Nat) : Prop where
  mx : ∀ l, B.mp = some l → B.n = 0 ∧ ∃ es clk, w.heap[b]? = some (.map es clk) ∧ MR r l es.toList
  ex : B.mp = none → ∃ cs, w.heap[b]? = some (.cells cs B.e (0, 0)) ∧ cs.size = sz ∧ B.n ≤ sz ∧ ∀ j, j < B.n → ∃ v, cs[j]? = some v ∧ CR r (B.cell j) v
/-- what a memory by names is in a world -/
structure RelH (r : Nm) (H : Hp) (w : World) : Prop where
  at_ : ∀ k B, H.get k = some B → ∃ b sz, r k = some (b, sz) ∧ BR r w B b sz
  inj : ∀ k j B D b s t, H.get k = some B → H.get j = some D → r k = some (b, s) → r j = some (b, t) → k = j
/-- what else a call leaves as it was -/
structure Fr (r : Nm) (H : Hp) (w w' : World) : Prop where
  os : w'.os = w.os
  tape : w'.tape = w.tape
  output : w'.output = w.output
  size : w.heap.size ≤ w'.heap.size
  block : ∀ b, b < w.heap.size → (∀ k B sz, H.get k = some B → r k ≠ some (b, sz)) → w'.heap[b]? = w.heap[b]?
theorem BR.mono {r s : Nm} {w : World} {B : Bk} {b sz : Nat} (h : r.le s) (k : BR r w B b sz) : BR s w B b sz := by
  refine ⟨fun l hl => ?_, fun hm => ?_⟩
  · obtain ⟨h0, es, clk, h1, h2⟩ := k.mx l hl
    exact ⟨h0, es, clk, h1, h2.mono h⟩
  · obtain ⟨cs, h1, h2, h3, h4⟩ := k.ex hm
    exact ⟨cs, h1, h2, h3, fun j hj => by obtain ⟨v, a, c⟩ := h4 j hj; exact ⟨v, a, c.mono h⟩⟩
theorem BR.lt {r : Nm} {w : World} {B : Bk} {b sz : Nat} (k : BR r w B b sz) : b < w.heap.size := by
  cases hm : B.mp with
  | none => obtain ⟨cs, h1, _⟩ := k.ex hm; exact (Array.getElem?_eq_some_iff.1 h1).1
  | some l => obtain ⟨_, es, clk, h1, _⟩ := k.mx l hm; exact (Array.getElem?_eq_some_iff.1 h1).1
theorem BR.nomap {r : Nm} {w : World} {B : Bk} {b sz : Nat} (k : BR r w B b sz) (h : 0 < B.n) : B.mp = none := by
  cases hm : B.mp with
  | none => rfl
  | some l => have := (k.mx l hm).1; omega
theorem BR.keep {r : Nm} {w w' : World} {B : Bk} {b sz : Nat} (k : BR r w B b sz) (h : w'.heap[b]? = w.heap[b]?) : BR r w' B b sz := by
  refine ⟨fun l hl => ?_, fun hm => ?_⟩
  · obtain ⟨h0, es, clk, h1, h2⟩ := k.mx l hl
    exact ⟨h0, es, clk, h.trans h1, h2⟩
  · obtain ⟨cs, h1, h2⟩ := k.ex hm
    exact ⟨cs, h.trans h1, h2⟩
theorem Fr.refl (r : Nm) (H : Hp) (w : World) : Fr r H w w := ⟨rfl, rfl, rfl, Nat.le_refl _, fun _ _ _ => rfl⟩
theorem Fr.drew {r : Nm} {H : Hp} {w w' : World} (h : Fr r H w w') : Fr r H w w'.drew := ⟨h.os, h.tape, h.output, h.size, h.block⟩
end Go.Proofs.YtagajjilccjplaaGreat
end
section
set_option linter.unusedVariables false
set_option linter.unusedSimpArgs false
/- Running closed code: operations that touch no memory. -/
namespace Go.Proofs.YtagajjilccjplaaGreat
open Go.RowKit

/-! ### Constants -/
def cOf : Value → Option C
  | .bool b => some (.b b)
  | .int k n => some (.i k n)
  | .string s => some (.s s)
  | .pointer none => some (.p none)
  | .slice none n c => some (.l none n (.k c))
  | .nilFunc => some .nf
  | .nilIface => some .ni
  | _ => none
theorem cOf_ok {r : Nm} {v : Value} {c : C} (h : cOf v = some c) : CR r c v := by
  unfold cOf at h
  split at h <;> (try (injection h with h; subst h)) <;> first | exact .b _ | exact .i _ _ | exact .s _ | exact .p0 | exact .l0 _ _ | exact .nf | exact .ni | cases h
def csOf : List Value → Option (List C)
  | [] => some []
  | v :: vs => match cOf v, csOf vs with
    | some c, some cs => some (c :: cs)
    | _, _ => none
theorem csOf_ok {r : Nm} : ∀ {vs : List Value} {cs : List C}, csOf vs = some cs → CsR r cs vs
  | [], cs, h => by injection h with h; subst h; exact .nil
  | v :: vs, cs, h => by
    unfold csOf at h
    split at h
    · rename_i c cs' h1 h2
      injection h with h
      subst h
      exact .cons (cOf_ok h1) (csOf_ok h2)
    · cases h
def wOf : Value → Option Wv
  | .agg cs => (csOf cs.toList).map .a
  | v => (cOf v).map .c
theorem wOf_ok {r : Nm} {v : Value} {x : Wv} (h : wOf v = some x) : WR r x v := by
  unfold wOf at h
  split at h
  · rename_i cs
    cases hc : csOf cs.toList with
    | none => rw [hc] at h; cases h
    | some l =>
      rw [hc] at h
      injection h with h
      subst h
      have := WR.a (csOf_ok (r := r) hc)
      simpa using this
  · cases hc : cOf v with
    | none => rw [hc] at h; cases h
    | some l =>
      rw [hc] at h
      injection h with h
      subst h
      exact .c (cOf_ok hc)
def vOf : Value → Option V
  | .tuple vs => if vs.size = 0 then some (.t []) else none
  | v => (wOf v).map .w
theorem vOf_ok {r : Nm} {v : Value} {x : V} (h : vOf v = some x) : VR r x v := by
  unfold vOf at h
  split at h
  · rename_i vs
    split at h
    · rename_i hz
      injection h with h
      subst h
      have : vs = #[] := Array.eq_empty_of_size_eq_zero hz
      subst this
      exact .t .nil
    · cases h
  · cases hc : wOf v with
    | none => rw [hc] at h; cases h
    | some l =>
      rw [hc] at h
      injection h with h
      subst h
      exact .w (wOf_ok hc)
/-! ### Operands -/
def evO (tm : Tr V) : Operand → Option V
  | .tmp t => tm.get t
  | .const v => vOf v
  | .func f => some (.w (.c (.f f [] [])))
  | .global _ => none
/-- a frame -/
structure RelA (r : Nm) (tm : Tr V) (n : Nat) (a : Act) : Prop where
  size : a.tmps.size = n
  defers : a.defers = []
  val : ∀ i v, tm.get i = some v → ∃ u, a.tmps[i]? = some u ∧ VR r v u
theorem evO_ok {r : Nm} {tm : Tr V} {n : Nat} {a : Act} (h : RelA r tm n a) {x : Operand} {v : V} (e : evO tm x = some v) : VR r v (a.eval x) := by
  cases x with
  | tmp t =>
    obtain ⟨u, h1, h2⟩ := h.val t v e
    show VR r v (a.tmps.getD t undef)
    rw [Array.getD_eq_getD_getElem?, h1]
    exact h2
  | const u => exact vOf_ok e
  | func f =>
    injection e with e
    subst e
    exact .w (.c (.f f .nil .nil))
  | global g => cases e
theorem RelA.mono {r s : Nm} {tm : Tr V} {n : Nat} {a : Act} (h : RelA r tm n a) (k : r.le s) : RelA s tm n a :=
  ⟨h.size, h.defers, fun i v e => by obtain ⟨u, h1, h2⟩ := h.val i v e; exact ⟨u, h1, h2.mono k⟩⟩
theorem RelA.put {r : Nm} {tm : Tr V} {n : Nat} {a : Act} (h : RelA r tm n a) {d : Nat} (hd : d < n) {v : V} {u : Value} (hv : VR r v u) : RelA r (tm.set d v) n (a.put (some d) u) := by
  refine ⟨by simp [Act.put, h.size], h.defers, fun i x hx => ?_⟩
  rw [Tr.get_set] at hx
  show ∃ y, (a.tmps.setIfInBounds d u)[i]? = some y ∧ VR r x y
  by_cases e : i = d
  · subst e
    rw [if_pos rfl] at hx
    injection hx with hx
    subst hx
    exact ⟨u, by simp [h.size, hd], hv⟩
  · rw [if_neg e] at hx
    obtain ⟨y, h1, h2⟩ := h.val i x hx
    exact ⟨y, by rw [Array.getElem?_setIfInBounds_ne (fun e' => e e'.symm)]; exact h1, h2⟩
theorem RelA.lose {r : Nm} {tm : Tr V} {n : Nat} {a : Act} (h : RelA r tm n a) (d : Nat) (u : Value) : RelA r (tm.del d) n (a.put (some d) u) := by
  refine ⟨by simp [Act.put, h.size], h.defers, fun i x hx => ?_⟩
  rw [Tr.get_del] at hx
  show ∃ y, (a.tmps.setIfInBounds d u)[i]? = some y ∧ VR r x y
  by_cases e : i = d
  · rw [if_pos e] at hx; cases hx
  · rw [if_neg e] at hx
    obtain ⟨y, h1, h2⟩ := h.val i x hx
    exact ⟨y, by rw [Array.getElem?_setIfInBounds_ne (fun e' => e e'.symm)]; exact h1, h2⟩
/-! ### Types -/
def szOf (P : Program) (t : TypeId) : Option Nat := (P.info? t).map (·.size)
def aggB (P : Program) (t : TypeId) : Option Bool := match P.underlying t with
  | some (.struct _) => some true
  | some (.array _ _) => some true
  | some _ => some false
  | none => none
theorem run_szOf {P : Program} {t : TypeId} {n : Nat} (h : szOf P t = some n) (w : World) : (sizeOf t).run P w = .ok n w := by
  unfold szOf at h
  cases hi : P.info? t with
  | none => rw [hi] at h; cases h
  | some i =>
    rw [hi] at h
    injection h with h
    subst h
    simp [sizeOf, typeInfo, hi, go_sem]
theorem run_aggB {P : Program} {t : TypeId} {b : Bool} (h : aggB P t = some b) (w : World) : (isAgg t).run P w = .ok b w := by
  unfold aggB at h
  cases hu : P.underlying t with
  | none => rw [hu] at h; cases h
  | some d =>
    rw [hu] at h
    have := run_underlying hu w
    cases d <;> simp at h <;> subst h <;> simp [isAgg, go_sem, this]
theorem CsR.length {r : Nm} {cs : List C} {vs : List Value} (h : CsR r cs vs) : vs.length = cs.length := by
  induction h with
  | nil => rfl
  | cons _ _ ih => simp [ih]
theorem CsR.get {r : Nm} {cs : List C} {vs : List Value} (h : CsR r cs vs) : ∀ (i : Nat) (c : C), cs[i]? = some c → ∃ v, vs[i]? = some v ∧ CR r c v := by
  induction h with
  | nil => intro i c h; simp at h
  | cons h t ih =>
    intro i c hc
    cases i with
    | zero => simp at hc; subst hc; exact ⟨_, rfl, h⟩
    | succ i => simpa using ih i c (by simpa using hc)
theorem CsR.drop {r : Nm} {cs : List C} {vs : List Value} (h : CsR r cs vs) : ∀ n, CsR r (cs.drop n) (vs.drop n) := by
  induction h with
  | nil => intro n; simp; exact .nil
  | cons h t ih =>
    intro n
    cases n with
    | zero => exact .cons h t
    | succ n => simpa using ih n
theorem CsR.take {r : Nm} {cs : List C} {vs : List Value} (h : CsR r cs vs) : ∀ n, CsR r (cs.take n) (vs.take n) := by
  induction h with
  | nil => intro n; simp; exact .nil
  | cons h t ih =>
    intro n
    cases n with
    | zero => exact .nil
    | succ n => simpa using .cons h (ih n)
theorem CsR.append {r : Nm} {cs ds : List C} {vs us : List Value} (h : CsR r cs vs) (k : CsR r ds us) : CsR r (cs ++ ds) (vs ++ us) := by
  induction h with
  | nil => exact k
  | cons h t ih => exact .cons h ih
/-- a part of a struct's or an array's cells -/
def partC (P : Program) (t : TypeId) (cs : List C) (off : Nat) : Option Wv := match aggB P t, szOf P t with
  | some true, some n => some (.a ((cs.drop off).take n))
  | some false, some _ => (cs[off]?).map .c
  | _, _ => none
theorem partC_ok {P : Program} {r : Nm} {t : TypeId} {cs : List C} {vs : List Value} {off : Nat} {x : Wv} (h : CsR r cs vs) (e : partC P t cs off = some x) :
    ∃ u, WR r x u ∧ ∀ w, (part t vs.toArray off).run P w = .ok u w := by
  unfold partC at e
  split at e
  · rename_i n h1 h2
    injection e with e
    subst e
    refine ⟨_, .a ((h.drop off).take n), fun w => ?_⟩
    have e1 := run_aggB h1 w
    have e2 := run_szOf h2 w
    simp [part, go_sem, e1, e2, List.extract_eq_take_drop]
  · rename_i n h1 h2
    cases hc : cs[off]? with
    | none => rw [hc] at e; cases e
    | some c =>
      rw [hc] at e
      injection e with e
      subst e
      obtain ⟨v, hv, hr⟩ := h.get off c hc
      refine ⟨v, .c hr, fun w => ?_⟩
      have e1 := run_aggB h1 w
      simp [part, go_sem, e1, hv]
  · cases e
end Go.Proofs.YtagajjilccjplaaGreat
end
section
set_option linter.unusedVariables false
set_option linter.unusedSimpArgs false
/- Running closed code: operators on numbers, truth values, strings, and equality. -/
namespace Go.Proofs.YtagajjilccjplaaGreat
open Go.RowKit

/-! ### Equality -/
def eqFs (rc : TypeId → Wv → Wv → Option Bool) (P : Program) : List Field → List C → List C → Option Bool
  | [], _, _ => some true
  | f :: fs, xs, ys => if f.name = "_" then none else
    match partC P f.type xs f.offset with
    | none => none
    | some a => match partC P f.type ys f.offset with
      | none => none
      | some b => match rc f.type a b with
        | none => none
        | some false => some false
        | some true => eqFs rc P fs xs ys
def eqW (P : Program) : Nat → TypeId → Wv → Wv → Option Bool
  | 0, _, _, _ => none
  | m + 1, t, x, y => match P.underlying t with
    | some .bool => match x, y with
      | .c (.b a), .c (.b b) => some (a == b)
      | _, _ => none
    | some (.int _) => match x, y with
      | .c (.i k a), .c (.i j b) => if k = j then some (a == b) else none
      | _, _ => none
    | some .string => match x, y with
      | .c (.s a), .c (.s b) => some (a.toList == b.toList)
      | _, _ => none
    | some (.struct fs) => match x, y with
      | .a xs, .a ys => if P.stoodInHeld t then none else eqFs (eqW P m) P fs.toList xs ys
      | _, _ => none
    | _ => none
theorem eqFs_ok {P : Program} {r : Nm} {rc : TypeId → Wv → Wv → Option Bool} {d : Nat} (hrc : ∀ t x y b u v, rc t x y = some b → WR r x u → WR r y v → ∀ w, (Op.equalIn d t u v).run P w = .ok b w)
    {xs ys : List C} {us vs : List Value} (hx : CsR r xs us) (hy : CsR r ys vs) : ∀ (fs : List Field) (b : Bool), eqFs rc P fs xs ys = some b → ∀ w, (Op.eqFields d us.toArray vs.toArray fs).run P w = .ok b w := by
  intro fs
  induction fs with
  | nil => intro b h w; injection h with h; subst h; simp [Op.eqFields]
  | cons f fs ih =>
    intro b h w
    unfold eqFs at h
    split at h
    · cases h
    · rename_i hn
      split at h
      · cases h
      · rename_i a ha
        split at h
        · cases h
        · rename_i c hc
          obtain ⟨u, hu, ru⟩ := partC_ok hx ha
          obtain ⟨v, hv, rv⟩ := partC_ok hy hc
          split at h
          · cases h
          · rename_i he
            injection h with h
            subst h
            have hr := hrc _ _ _ _ _ _ he hu hv
            simp only [Op.eqFields, ne_eq, hn, not_false_eq_true, if_true, Sem.run_bind, ru, rv, hr, Result.andThen_ok, Bool.not_false, Sem.run_pure]
          · rename_i he
            have hr := hrc _ _ _ _ _ _ he hu hv
            simp only [Op.eqFields, ne_eq, hn, not_false_eq_true, if_true, Sem.run_bind, ru, rv, hr, Result.andThen_ok, Bool.not_true, Bool.false_eq_true, if_false]
            exact ih b h w
theorem eqW_ok {P : Program} {r : Nm} : ∀ (m d : Nat), m ≤ d → ∀ t x y b u v, eqW P m t x y = some b → WR r x u → WR r y v → ∀ w, (Op.equalIn d t u v).run P w = .ok b w := by
  intro m
  induction m with
  | zero => intro d _ t x y b u v h; cases h
  | succ m ih =>
    intro d hd t x y b u v h hu hv w
    obtain ⟨d, rfl⟩ : ∃ e, d = e + 1 := ⟨d - 1, by omega⟩
    unfold eqW at h
    split at h
    · rename_i ht
      split at h
      · injection h with h
        subst h
        cases hu with
        | c hu => cases hu; cases hv with
          | c hv => cases hv; exact run_equalIn_bool' w d t _ _ ht
      · cases h
    · rename_i ht
      split at h
      · split at h
        · rename_i k a j c hk
          subst hk
          injection h with h
          subst h
          cases hu with
          | c hu => cases hu; cases hv with
            | c hv => cases hv; exact run_equalIn_int w d t _ _ _ _ ht
        · cases h
      · cases h
    · rename_i ht
      split at h
      · injection h with h
        subst h
        cases hu with
        | c hu => cases hu; cases hv with
          | c hv => cases hv; exact run_equalIn_string w d t _ _ ht
      · cases h
    · rename_i fs ht
      split at h
      · split at h
        · cases h
        · rename_i xs ys hs
          cases hu with
          | a hu => cases hv with
            | a hv =>
              have hf : P.fieldsOf t = fs := by unfold Program.fieldsOf; rw [ht]
              rw [run_equalIn_struct w d t _ _ (by rw [hf]; exact ht) (by simpa using hs), hf]
              exact eqFs_ok (fun t x y b u v => ih d (by omega) t x y b u v) hu hv fs.toList b h w
      · cases h
    · cases h
/-! ### Operators -/
def bitsI (op : BinOp) (k : IntKind) (x y : Int) : Option Int := match op with
  | .and => some (k.wrap (BitVec.ofInt k.bits x &&& BitVec.ofInt k.bits y).toNat)
  | .or => some (k.wrap (BitVec.ofInt k.bits x ||| BitVec.ofInt k.bits y).toNat)
  | .xor => some (k.wrap (BitVec.ofInt k.bits x ^^^ BitVec.ofInt k.bits y).toNat)
  | .andNot => some (k.wrap (BitVec.ofInt k.bits x &&& ~~~BitVec.ofInt k.bits y).toNat)
  | _ => none
def intBin (op : BinOp) (k : IntKind) (x y : Int) : Option C := match op with
  | .add => some (.i k (k.wrap (x + y)))
  | .sub => some (.i k (k.wrap (x - y)))
  | .mul => some (.i k (k.wrap (x * y)))
  | .quo => if y = 0 then none else some (.i k (k.wrap (x.tdiv y)))
  | .rem => if y = 0 then none else some (.i k (x.tmod y))
  | .eql => some (.b (x == y))
  | .neq => some (.b (x != y))
  | .lss => some (.b (x < y))
  | .leq => some (.b (x ≤ y))
  | .gtr => some (.b (x > y))
  | .geq => some (.b (x ≥ y))
  | .shl => none
  | .shr => none
  | op => (bitsI op k x y).map (.i k)
def shiftI (op : BinOp) (k : IntKind) (x y : Int) : Option C := if y < 0 then none else match op with
  | .shl => some (.i k (k.wrap (x * 2 ^ min y.toNat k.bits)))
  | .shr => some (.i k (x.fdiv (2 ^ min y.toNat k.bits)))
  | _ => none
def isShift : BinOp → Bool
  | .shl => true
  | .shr => true
  | _ => false
def strBin (op : BinOp) (x y : ByteArray) : Option C :=
  match op with
  | .add => if x.size + y.size ≤ 1000000 then some (.s (x ++ y)) else none
  | .eql => some (.b (x.toList == y.toList))
  | .neq => some (.b (!(x.toList == y.toList)))
  | _ => none
def eqB (op : BinOp) (b : Bool) : Option C := match op with
  | .eql => some (.b b)
  | .neq => some (.b (!b))
  | _ => none
def codeB : BinOp → Nat
  | .eql => 0
  | .neq => 1
  | .lss => 2
  | .leq => 3
  | .gtr => 4
  | .geq => 5
  | _ => 9
/-- what is known of a number that is not known -/
def lookF : List (Nat × Int × Bool) → Nat → Int → Option Bool
  | [], _, _ => none
  | (c, n, b) :: l, d, m => if c = d ∧ n = m then some b else lookF l d m
theorem lookF_mem : ∀ {l : List (Nat × Int × Bool)} {d : Nat} {m : Int} {b : Bool}, lookF l d m = some b → (d, m, b) ∈ l
  | [], _, _, _, h => by cases h
  | (c, n, b) :: l, d, m, b', h => by
    unfold lookF at h
    split at h
    · rename_i hc
      injection h with h
      obtain ⟨rfl, rfl⟩ := hc
      subst h
      exact List.mem_cons_self
    · exact List.mem_cons_of_mem _ (lookF_mem h)
def opBin (P : Program) (op : BinOp) (t : TypeId) (x y : V) : Option C := match x, y with
  | .w (.c (.i k a)), .w (.c (.i j b)) => if isShift op then shiftI op k a b else if k = j then intBin op k a b else none
  | .w (.c (.s a)), .w (.c (.s b)) => strBin op a b
  | .w (.c (.b a)), .w (.c (.b b)) => match P.underlying t with
    | some .bool => eqB op (a == b)
    | _ => none
  | .w (.c (.p a)), .w (.c (.p none)) => match P.underlying t with
    | some (.pointer _) => eqB op a.isNone
    | _ => none
  | .w (.c (.p none)), .w (.c (.p (some _))) => match P.underlying t with
    | some (.pointer _) => eqB op false
    | _ => none
  | .w (.c (.l a _ _)), .w (.c (.l none 0 (.k 0))) => match P.underlying t with
    | some (.slice _) => eqB op a.isNone
    | _ => none
  | .w (.c .nf), .w (.c .nf) => match P.underlying t with
    | some (.func _ _ _) => eqB op true
    | _ => none
  | .w (.c (.f _ _ _)), .w (.c .nf) => match P.underlying t with
    | some (.func _ _ _) => eqB op false
    | _ => none
  | .w (.a xs), .w (.a ys) => if P.eqGuardType P.depth t then none else match eqW P 12 t (.a xs) (.a ys) with
    | some b => eqB op b
    | none => none
  | .w (.c (.o _ f)), .w (.c (.i .i64 n)) => (lookF f (codeB op) n).map .b
  | _, _ => none
theorem bitsI_ok {P : Program} {op : BinOp} {k : IntKind} {x y z : Int} (h : bitsI op k x y = some z) (w : World) : (Op.intBits op k x y).run P w = .ok (.int k z) w := by
  unfold bitsI at h
  split at h <;> first | (injection h with h; subst h; simp [Op.intBits]) | cases h
theorem intBin_ok {P : Program} {r : Nm} {op : BinOp} {t : TypeId} {k : IntKind} {x y : Int} {c : C} (h : intBin op k x y = some c) : ∃ u, CR r c u ∧ ∀ w, (binOp op t (.int k x) (.int k y)).run P w = .ok u w := by
  unfold intBin at h
  split at h
  case h_14 =>
    cases hb : bitsI _ k x y with
    | none => rw [hb] at h; cases h
    | some z =>
      rw [hb] at h
      injection h with h
      subst h
      refine ⟨_, .i k z, fun w => ?_⟩
      have := bitsI_ok (P := P) hb w
      unfold bitsI at hb
      split at hb <;> first | (simpa [binOp] using this) | cases hb
  all_goals first
    | (injection h with h; subst h; refine ⟨_, by first | exact .i _ _ | exact .b _, fun w => ?_⟩; simp [binOp, Op.intArith, Op.intCmp, go_sem]; done)
    | (split at h
       · cases h
       · rename_i hz
         injection h with h; subst h; refine ⟨_, .i _ _, fun w => ?_⟩; simp [binOp, Op.intDiv, hz, go_sem])
    | cases h
theorem cmpC_ok {op : BinOp} {x y : Int} {b : Bool} (h : cmpC (codeB op) x y = some b) : intBin op .i64 x y = some (.b b) := by
  cases op <;> simp [codeB, cmpC] at h <;> subst h <;> simp [intBin]
theorem shiftI_ok {P : Program} {r : Nm} {op : BinOp} {t : TypeId} {k j : IntKind} {x y : Int} {c : C} (hs : isShift op = true) (h : shiftI op k x y = some c) : ∃ u, CR r c u ∧ ∀ w, (binOp op t (.int k x) (.int j y)).run P w = .ok u w := by
  unfold shiftI at h
  split at h
  · cases h
  · rename_i hz
    split at h
    · injection h with h; subst h; refine ⟨_, .i _ _, fun w => ?_⟩; simp [binOp, Op.shift, hz, go_sem]
    · injection h with h; subst h; refine ⟨_, .i _ _, fun w => ?_⟩; simp [binOp, Op.shift, hz, go_sem]
    · cases h
end Go.Proofs.YtagajjilccjplaaGreat
end
section
set_option linter.unusedVariables false
set_option linter.unusedSimpArgs false
/- Running closed code: binary and unary operators, conversions, addresses, parts; all operations that touch no memory. -/
namespace Go.Proofs.YtagajjilccjplaaGreat
open Go.RowKit

section
variable {P : Program} (w : World) (d : Nat) {t e : TypeId}
theorem eq_ptr_nil (ht : P.underlying t = some (.pointer e)) (a : Option Addr) : (Op.equalIn (d + 1) t (.pointer a) (.pointer none)).run P w = .ok a.isNone w := by
  cases a <;> simp [Op.equalIn, run_underlying ht]
theorem eq_nil_ptr (ht : P.underlying t = some (.pointer e)) (a : Addr) : (Op.equalIn (d + 1) t (.pointer none) (.pointer (some a))).run P w = .ok false w := by
  simp [Op.equalIn, run_underlying ht]
theorem eq_sl_nil (ht : P.underlying t = some (.slice e)) (a : Option Addr) (n c : Nat) : (Op.equalIn (d + 1) t (.slice a n c) (.slice none 0 0)).run P w = .ok a.isNone w := by
  cases a <;> simp [Op.equalIn, run_underlying ht]
theorem eq_fn_nil {x y : Array TypeId} {z : Bool} (ht : P.underlying t = some (.func x y z)) : (Op.equalIn (d + 1) t .nilFunc .nilFunc).run P w = .ok true w := by
  simp [Op.equalIn, run_underlying ht]
theorem eq_fn_some {x y : Array TypeId} {z : Bool} (ht : P.underlying t = some (.func x y z)) (f : Fn) (a c : Array Value) : (Op.equalIn (d + 1) t (.func f a c) .nilFunc).run P w = .ok false w := by
  simp [Op.equalIn, run_underlying ht]
end
theorem eqB_ok {op : BinOp} {b : Bool} {c : C} (h : eqB op b = some c) : (op = .eql ∧ c = .b b) ∨ (op = .neq ∧ c = .b (!b)) := by
  unfold eqB at h
  split at h
  · injection h with h; exact .inl ⟨rfl, h.symm⟩
  · injection h with h; exact .inr ⟨rfl, h.symm⟩
  · cases h
/-- no aggregates, no interface values: the guard passes -/
def plainV : Value → Bool
  | .agg _ => false
  | .nilIface => false
  | _ => true
theorem guard_plain {P : Program} {op : BinOp} {t : TypeId} {x y : Operand} {u v : Value} (h : plainV u = true) (w : World) : (eqGuard op t x y u v).run P w = .ok () w := by
  cases u <;> simp [plainV] at h <;> cases op <;> simp [eqGuard]
theorem binOp_equal {P : Program} {op : BinOp} {t : TypeId} {u v : Value} {b : Bool} {c : C} {r : Nm} (h : eqB op b = some c) (hq : ∀ w, (Op.equal t u v).run P w = .ok b w)
    (hb1 : binOp .eql t u v = (do pure (.bool (← Op.equal t u v)))) (hb2 : binOp .neq t u v = (do pure (.bool (!(← Op.equal t u v))))) : ∃ z, CR r c z ∧ ∀ w, (binOp op t u v).run P w = .ok z w := by
  rcases eqB_ok h with ⟨rfl, rfl⟩ | ⟨rfl, rfl⟩
  · exact ⟨_, .b _, fun w => by rw [hb1]; simp [hq w]⟩
  · exact ⟨_, .b _, fun w => by rw [hb2]; simp [hq w]⟩
set_option maxHeartbeats 1000000 in
theorem opBin_ok {P : Program} {r : Nm} {op : BinOp} {t : TypeId} {x y : V} {c : C} {u v : Value} (h : opBin P op t x y = some c) (hu : VR r x u) (hv : VR r y v) :
    ∃ z, CR r c z ∧ ∀ (ox oy : Operand) (w : World), ((do eqGuard op t ox oy u v; binOp op t u v) : Sem Value).run P w = .ok z w := by
  have fin : plainV u = true → (∃ z, CR r c z ∧ ∀ w, (binOp op t u v).run P w = .ok z w) → ∃ z, CR r c z ∧ ∀ (ox oy : Operand) (w : World), ((do eqGuard op t ox oy u v; binOp op t u v) : Sem Value).run P w = .ok z w := by
    rintro hp ⟨z, h1, h2⟩
    exact ⟨z, h1, fun ox oy w => by rw [Sem.run_bind, guard_plain hp, Result.andThen_ok]; exact h2 w⟩
  unfold opBin at h
  split at h
  · cases hu with | w hu => cases hu with | c hu => cases hu; cases hv with | w hv => cases hv with | c hv => cases hv; exact fin rfl (by
      split at h
      · rename_i hs; exact shiftI_ok hs h
      · split at h
        · rename_i hk; subst hk; exact intBin_ok h
        · cases h)
  · cases hu with | w hu => cases hu with | c hu => cases hu; cases hv with | w hv => cases hv with | c hv => cases hv; exact fin rfl (by
      unfold strBin at h
      split at h
      · split at h
        · rename_i hl
          injection h with h
          subst h
          refine ⟨_, .s _, fun w => ?_⟩
          have hm : IntKind.i64.max = 9223372036854775807 := by decide
          simp only [binOp, Op.stringOp, hm]
          rw [if_neg (by omega)]; rfl
        · cases h
      · injection h with h; subst h; exact ⟨_, .b _, fun w => by simp [binOp, Op.stringOp]⟩
      · injection h with h; subst h; exact ⟨_, .b _, fun w => by simp [binOp, Op.stringOp]⟩
      · cases h)
  · cases hu with | w hu => cases hu with | c hu => cases hu; cases hv with | w hv => cases hv with | c hv => cases hv; exact fin rfl (by
      split at h
      · rename_i ht; exact binOp_equal h (fun w => run_equal_bool w t _ _ ht) rfl rfl
      · cases h)
  · cases hv with | w hv => cases hv with | c hv => cases hv; cases hu with | w hu => cases hu with | c hu => exact fin (by cases hu <;> rfl) (by
      split at h
      · rename_i e ht
        cases hu with
        | p0 => exact binOp_equal h (fun w => eq_ptr_nil w 9999 ht none) rfl rfl
        | p k => exact binOp_equal h (fun w => eq_ptr_nil w 9999 ht _) rfl rfl
      · cases h)
  · cases hu with | w hu => cases hu with | c hu => cases hu; cases hv with | w hv => cases hv with | c hv => exact fin rfl (by
      split at h
      · rename_i e ht
        cases hv with
        | p k => exact binOp_equal h (fun w => eq_nil_ptr w 9999 ht _) rfl rfl
      · cases h)
  · cases hv with | w hv => cases hv with | c hv => cases hv; cases hu with | w hu => cases hu with | c hu => exact fin (by cases hu <;> rfl) (by
      split at h
      · rename_i e ht
        cases hu with
        | l0 n c => exact binOp_equal h (fun w => eq_sl_nil w 9999 ht _ _ _) rfl rfl
        | l n c k => exact binOp_equal h (fun w => eq_sl_nil w 9999 ht _ _ _) rfl rfl
        | u n c es k => exact binOp_equal h (fun w => eq_sl_nil w 9999 ht _ _ _) rfl rfl
      · cases h)
  · cases hu with | w hu => cases hu with | c hu => cases hu; cases hv with | w hv => cases hv with | c hv => cases hv; exact fin rfl (by
      split at h
      · rename_i ht; exact binOp_equal h (fun w => eq_fn_nil w 9999 ht) rfl rfl
      · cases h)
  · cases hu with | w hu => cases hu with | c hu => cases hu; cases hv with | w hv => cases hv with | c hv => cases hv; exact fin rfl (by
      split at h
      · rename_i ht; exact binOp_equal h (fun w => eq_fn_some w 9999 ht _ _ _) rfl rfl
      · cases h)
  · split at h
    · cases h
    · rename_i hg
      split at h
      · rename_i b hb
        cases hu with | w hu => cases hu with | a hu => cases hv with | w hv => cases hv with | a hv =>
          have hr := fun w => eqW_ok (P := P) (r := r) 12 10000 (by decide) t _ _ b _ _ hb (.a hu) (.a hv) w
          have hgd := fun (ox oy : Operand) (us vs : Array Value) (w : World) => run_eqGuard_agg (P := P) w op t ox oy us vs (by simpa using hg)
          rcases eqB_ok h with ⟨rfl, rfl⟩ | ⟨rfl, rfl⟩
          · exact ⟨_, .b _, fun ox oy w => by rw [Sem.run_bind, hgd, Result.andThen_ok, run_eql_struct, hr w, Result.andThen_ok]⟩
          · exact ⟨_, .b _, fun ox oy w => by rw [Sem.run_bind, hgd, Result.andThen_ok, run_neq_struct, hr w, Result.andThen_ok]⟩
      · cases h
  · cases hu with | w hu => cases hu with | c hu => cases hu with | o hk hf => cases hv with | w hv => cases hv with | c hv => cases hv; exact fin rfl (by
      cases hl : lookF _ _ _ with
      | none => rw [hl] at h; cases h
      | some b =>
        rw [hl] at h
        injection h with h
        subst h
        exact intBin_ok (cmpC_ok (hf _ (lookF_mem hl))))
  · cases h
/-! ### Unary operators, conversions -/
def opUn (op : UnOp) (x : V) : Option C := match op, x with
  | .neg, .w (.c (.i k n)) => some (.i k (k.wrap (0 - n)))
  | .not, .w (.c (.b b)) => some (.b (!b))
  | _, _ => none
theorem opUn_ok {P : Program} {r : Nm} {op : UnOp} {x : V} {c : C} {u : Value} (h : opUn op x = some c) (hu : VR r x u) : ∃ z, CR r c z ∧ ∀ w, (Op.unary op u).run P w = .ok z w := by
  unfold opUn at h
  split at h
  · injection h with h; subst h
    cases hu with | w hu => cases hu with | c hu => cases hu; exact ⟨_, .i _ _, fun w => by simp [Op.unary, Op.intArith]⟩
  · injection h with h; subst h
    cases hu with | w hu => cases hu with | c hu => cases hu; exact ⟨_, .b _, fun w => by simp [Op.unary]⟩
  · cases h
def opConv (P : Program) (s d : TypeId) (x : V) : Option C := match P.underlying s, P.underlying d, x with
  | some _, some (.int k), .w (.c (.i _ n)) => some (.i k (k.wrap n))
  | some _, some .string, .w (.c (.s a)) => some (.s a)
  | _, _, _ => none
theorem opConv_ok {P : Program} {r : Nm} {s d : TypeId} {x : V} {c : C} {u : Value} (h : opConv P s d x = some c) (hu : VR r x u) : ∃ z, CR r c z ∧ ∀ w, (convert s d u).run P w = .ok z w := by
  unfold opConv at h
  split at h
  · rename_i ds k n h1 h2
    injection h with h; subst h
    cases hu with | w hu => cases hu with | c hu => cases hu; exact ⟨_, .i _ _, fun w => by
      unfold convert
      rw [Sem.run_bind, run_underlying h1, Result.andThen_ok, Sem.run_bind, run_underlying h2, Result.andThen_ok]
      cases ds <;> simp [Conv.intToInt]⟩
  · rename_i ds a h1 h2
    injection h with h; subst h
    cases hu with | w hu => cases hu with | c hu => cases hu; exact ⟨_, .s _, fun w => by
      unfold convert
      rw [Sem.run_bind, run_underlying h1, Result.andThen_ok, Sem.run_bind, run_underlying h2, Result.andThen_ok]
      cases ds <;> simp⟩
  · cases h
end Go.Proofs.YtagajjilccjplaaGreat
end
section
set_option linter.unusedVariables false
set_option linter.unusedSimpArgs false
/- Running closed code: structs and arrays that are built, addresses, parts, slices of slices, lengths. -/
namespace Go.Proofs.YtagajjilccjplaaGreat
open Go.RowKit
set_option linter.unusedVariables false

/-! ### Filling -/
def wcells : Wv → List C
  | .c x => [x]
  | .a cs => cs
theorem CR.notAgg {r : Nm} {c : C} {v : Value} (h : CR r c v) : v.cells = #[v] := by cases h <;> rfl
theorem wcells_ok {r : Nm} {x : Wv} {v : Value} (h : WR r x v) : CsR r (wcells x) v.cells.toList := by
  cases h with
  | c h => rw [h.notAgg]; exact .cons h .nil
  | a h => simpa [Value.cells, wcells] using h
theorem CsR.set {r : Nm} {cs : List C} {vs : List Value} (h : CsR r cs vs) {c : C} {v : Value} (k : CR r c v) : ∀ i, CsR r (cs.set i c) (vs.set i v) := by
  induction h with
  | nil => intro i; simp; exact .nil
  | cons h t ih =>
    intro i
    cases i with
    | zero => exact .cons k t
    | succ i => exact .cons h (ih i)
def putAll (off : Nat) : List C → List C → List C
  | [], cs => cs
  | x :: xs, cs => putAll (off + 1) xs (cs.set off x)
theorem putAll_ok {r : Nm} : ∀ (xs : List C) (us : List Value), CsR r xs us → ∀ (k off : Nat) (cs : List C) (vs : Array Value), CsR r cs vs.toList →
    CsR r (putAll (off + k) xs cs) ((us.zipIdx k).foldl (fun cs (p : Value × Nat) => cs.setIfInBounds (off + p.2) p.1) vs).toList := by
  intro xs us h
  induction h with
  | nil => intro k off cs vs hc; exact hc
  | cons h t ih =>
    intro k off cs vs hc
    rw [List.zipIdx_cons, List.foldl_cons]
    show CsR r (putAll (off + k + 1) _ (cs.set (off + k) _)) _
    exact ih (k + 1) off _ _ (by rw [Array.toList_setIfInBounds]; exact hc.set h _)
def fillC (place : Nat → Option (Nat × Nat)) : List C → List (Nat × Wv) → Option (List C)
  | cs, [] => some cs
  | cs, (i, x) :: rest => match place i with
    | none => none
    | some (off, size) => if (wcells x).length ≠ size ∨ off + (wcells x).length > cs.length then none else fillC place (putAll off (wcells x) cs) rest
inductive PsR (r : Nm) : List (Nat × Wv) → List (Nat × Value) → Prop where
  | nil : PsR r [] []
  | cons {i x v xs vs} (h : WR r x v) (t : PsR r xs vs) : PsR r ((i, x) :: xs) ((i, v) :: vs)
theorem fillC_ok {r : Nm} {place : Nat → Option (Nat × Nat)} : ∀ (ps : List (Nat × Wv)) (qs : List (Nat × Value)), PsR r ps qs → ∀ (cs : List C) (vs : Array Value) (ds : List C), CsR r cs vs.toList → fillC place cs ps = some ds →
    ∃ us : Array Value, Instr.fill place vs qs = some us ∧ CsR r ds us.toList := by
  intro ps qs h
  induction h with
  | nil => intro cs vs ds hc hf; injection hf with hf; subst hf; exact ⟨vs, rfl, hc⟩
  | cons hw t ih =>
    rename_i i x v xs rest
    intro cs vs ds hc hf
    unfold fillC at hf
    unfold Instr.fill
    cases hp : place i with
    | none => rw [hp] at hf; cases hf
    | some os =>
      obtain ⟨off, size⟩ := os
      rw [hp] at hf
      simp only at hf
      have hwc := wcells_ok hw
      have l1 := hwc.length
      have l2 := hc.length
      rw [Array.length_toList] at l1 l2
      split at hf
      · cases hf
      · rename_i hn
        have e : (v.cells.size ≠ size || off + v.cells.size > vs.size) = false := by
          rw [l1, l2]
          simp only [not_or] at hn
          simp
          omega
        simp only [e]
        have hz : (v.cells.zipIdx.foldl (fun cs (p : Value × Nat) => cs.setIfInBounds (off + p.2) p.1) vs) = ((v.cells.toList.zipIdx 0).foldl (fun cs (p : Value × Nat) => cs.setIfInBounds (off + p.2) p.1) vs) := by
          rw [← Array.foldl_toList, Array.toList_zipIdx]
        have hq := putAll_ok _ _ hwc 0 off cs vs hc
        obtain ⟨us, h1, h2⟩ := ih _ _ ds (by rw [Nat.add_zero] at hq; exact hq) hf
        refine ⟨us, ?_, h2⟩
        rw [← h1]
        simp only [Bool.false_eq_true, if_false]
        congr 1
/-- the zero of a type, by cells -/
def zeroW (P : Program) (t : TypeId) : Option Wv := match P.info? t with
  | some i => match i.zero with
    | some z => wOf z
    | none => none
  | none => none
theorem zeroW_ok {P : Program} {r : Nm} {t : TypeId} {x : Wv} (h : zeroW P t = some x) : ∃ i z, P.info? t = some i ∧ i.zero = some z ∧ WR r x z := by
  unfold zeroW at h
  split at h
  · rename_i i hi
    split at h
    · rename_i z hz; exact ⟨i, z, hi, hz, wOf_ok h⟩
    · cases h
  · cases h
def placesOf (P : Program) : List Field → Option (List (Nat × Nat))
  | [] => some []
  | f :: fs => match szOf P f.type, placesOf P fs with
    | some n, some l => some ((f.offset, n) :: l)
    | _, _ => none
theorem placesOf_ok {P : Program} : ∀ (fs : List Field) (l : List (Nat × Nat)), placesOf P fs = some l → fs.mapM (fun f => (P.info? f.type).map fun i => (f.offset, i.size)) = some l
  | [], l, h => by injection h with h; subst h; rfl
  | f :: fs, l, h => by
    unfold placesOf at h
    split at h
    · rename_i n l' h1 h2
      injection h with h
      subst h
      unfold szOf at h1
      cases hi : P.info? f.type with
      | none => rw [hi] at h1; cases h1
      | some i =>
        rw [hi] at h1
        injection h1 with h1
        subst h1
        simp [List.mapM_cons, hi, placesOf_ok fs l' h2]
    · cases h
def partsE (e : Operand → Option V) : List (Nat × Operand) → Option (List (Nat × Wv))
  | [] => some []
  | (i, x) :: rest => match e x, partsE e rest with
    | some (.w w), some l => some ((i, w) :: l)
    | _, _ => none
theorem partsE_ok {r : Nm} {e : Operand → Option V} {g : Operand → Value} (h : ∀ x v, e x = some v → VR r v (g x)) : ∀ (ps : List (Nat × Operand)) (l : List (Nat × Wv)), partsE e ps = some l → PsR r l (ps.map fun (i, x) => (i, g x))
  | [], l, k => by injection k with k; subst k; exact .nil
  | (i, x) :: rest, l, k => by
    unfold partsE at k
    split at k
    · rename_i w l' h1 h2
      injection k with k
      subst k
      have := h _ _ h1
      cases this with
      | w hw => exact .cons hw (partsE_ok h rest l' h2)
    · cases k
def opBuild (P : Program) (t : TypeId) (ps : List (Nat × Wv)) : Option (List C) := match zeroW P t with
  | none => none
  | some z => match P.underlying t with
    | some (.struct fs) => match placesOf P fs.toList with
      | some pl => fillC (pl.toArray[·]?) (wcells z) ps
      | none => none
    | some (.array _ e) => match szOf P e with
      | some n => fillC (fun i => some (i * n, n)) (wcells z) ps
      | none => none
    | _ => none
theorem opBuild_ok {P : Program} {r : Nm} {t : TypeId} {ps : List (Nat × Wv)} {qs : Array (Nat × Value)} {cs : List C} (h : opBuild P t ps = some cs) (hp : PsR r ps qs.toList) :
    ∃ vs : List Value, CsR r cs vs ∧ ∀ w, (Instr.build t qs).run P w = .ok (.agg vs.toArray) w := by
  unfold opBuild at h
  cases hz : zeroW P t with
  | none => rw [hz] at h; cases h
  | some z =>
    rw [hz] at h
    obtain ⟨i, zv, hi, hiz, hzr⟩ := zeroW_ok (r := r) hz
    simp only at h
    split at h
    · rename_i fs hu
      cases hpl : placesOf P fs.toList with
      | none => rw [hpl] at h; cases h
      | some pl =>
        rw [hpl] at h
        obtain ⟨us, h1, h2⟩ := fillC_ok _ _ hp _ _ _ (wcells_ok hzr) h
        refine ⟨us.toList, h2, fun w => ?_⟩
        have := run_build (P := P) w t qs us (by unfold Program.built; simp only [hi, hu, hiz, placesOf_ok _ _ hpl]; exact h1)
        simpa using this
    · rename_i n e hu
      cases hs : szOf P e with
      | none => rw [hs] at h; cases h
      | some sz =>
        rw [hs] at h
        unfold szOf at hs
        cases hie : P.info? e with
        | none => rw [hie] at hs; cases hs
        | some ie =>
          rw [hie] at hs
          injection hs with hs
          subst hs
          obtain ⟨us, h1, h2⟩ := fillC_ok _ _ hp _ _ _ (wcells_ok hzr) h
          refine ⟨us.toList, h2, fun w => ?_⟩
          have := run_build (P := P) w t qs us (by unfold Program.built; simp only [hi, hu, hiz, hie]; exact h1)
          simpa using this
    · cases h
end Go.Proofs.YtagajjilccjplaaGreat
end
section
set_option linter.unusedVariables false
set_option linter.unusedSimpArgs false
/- Running closed code: addresses, parts, slices of slices, lengths; every operation that touches no memory. -/
namespace Go.Proofs.YtagajjilccjplaaGreat
open Go.RowKit
set_option linter.unusedVariables false

theorem add_at (b o n : Nat) : (⟨b, o, none⟩ : Addr).add n = ⟨b, o + n, none⟩ := by
  unfold Addr.add
  split
  · rename_i h; subst h; rfl
  · rfl
def opFieldAddr (P : Program) (s : TypeId) (x : V) (f : Nat) : Option C := match x, P.underlying s with
  | .w (.c (.p (some (k, o)))), some (.struct fs) => match fs[f]? with
    | some fd => match szOf P fd.type with
      | some (n + 1) => some (.p (some (k, o + fd.offset)))
      | _ => none
    | none => none
  | _, _ => none
theorem opFieldAddr_ok {P : Program} {r : Nm} {s : TypeId} {x : V} {f : Nat} {c : C} {u : Value} (h : opFieldAddr P s x f = some c) (hu : VR r x u) : ∃ z, CR r c z ∧ ∀ w, (Instr.fieldAt s u f).run P w = .ok z w := by
  unfold opFieldAddr at h
  split at h
  · rename_i k o fs ht
    split at h
    · rename_i fd hf
      split at h
      · rename_i n hn
        injection h with h
        subst h
        cases hu with | w hu => cases hu with | c hu => cases hu with | p hk =>
          refine ⟨_, .p hk, fun w => ?_⟩
          have e1 := run_underlying ht w
          have e2 := run_szOf hn w
          simp only [Instr.fieldAt, ptrOf, Sem.run_bind, e1, Result.andThen_ok, hf]
          simp only [Instr.sureAddr, fieldPlace, Sem.run_bind, e2, Result.andThen_ok, Sem.run_pure, Nat.succ_ne_zero, if_false, add_at]
      · cases h
    · cases h
  · cases h
def opField (P : Program) (t : TypeId) (x : V) (f : Nat) : Option Wv := match x, P.underlying t with
  | .w (.a cs), some (.struct fs) => match fs[f]? with
    | some fd => partC P fd.type cs fd.offset
    | none => none
  | _, _ => none
theorem opField_ok {P : Program} {r : Nm} {t : TypeId} {x : V} {f : Nat} {c : Wv} {u : Value} (h : opField P t x f = some c) (hu : VR r x u) : ∃ z, WR r c z ∧ ∀ w, (Instr.field t u f).run P w = .ok z w := by
  unfold opField at h
  split at h
  · rename_i cs fs ht
    split at h
    · rename_i fd hf
      cases hu with | w hu => cases hu with | a hu =>
        obtain ⟨z, h1, h2⟩ := partC_ok hu h
        refine ⟨z, h1, fun w => ?_⟩
        simp only [Instr.field, Sem.run_bind, run_underlying ht w, Result.andThen_ok, hf, asAgg, Sem.run_pure, h2]
    · cases h
  · cases h
def opIndexAddr (P : Program) (t : TypeId) (x i : V) : Option C := match i with
  | .w (.c (.i _ n)) => match P.underlying t, x with
    | some (.slice e), .w (.c (.l (some (k, o)) len _)) => match szOf P e with
      | some sz => if 0 ≤ n ∧ n < len then some (.p (some (k, o + n.toNat * sz))) else none
      | none => none
    | some (.array len e), .w (.c (.p (some (k, o)))) => match szOf P e with
      | some sz => if 0 ≤ n ∧ n < len then some (.p (some (k, o + n.toNat * sz))) else none
      | none => none
    | _, _ => none
  | _ => none
theorem opIndexAddr_ok {P : Program} {r : Nm} {t : TypeId} {x i : V} {c : C} {u v : Value} (h : opIndexAddr P t x i = some c) (hu : VR r x u) (hv : VR r i v) : ∃ z, CR r c z ∧ ∀ w, (Instr.indexAt t u v).run P w = .ok z w := by
  unfold opIndexAddr at h
  split at h
  · rename_i ik n
    cases hv with | w hv => cases hv with | c hv => cases hv with | i =>
    split at h
    · rename_i e k o len cp ht
      split at h
      · rename_i sz hs
        split at h
        · rename_i hb
          injection h with h
          subst h
          cases hu with | w hu => cases hu with | c hu =>
            cases hu with
            | l n' c' hk =>
              refine ⟨_, .p hk, fun w => ?_⟩
              simp only [Instr.indexAt, asIntOf, Sem.run_bind, run_underlying ht, Result.andThen_ok, Sem.run_pure, hb, and_self, if_true, run_szOf hs, add_at]; rfl
            | u n' c' es hk h1 h2 h3 =>
              refine ⟨_, .p hk, fun w => ?_⟩
              simp only [Instr.indexAt, asIntOf, Sem.run_bind, run_underlying ht, Result.andThen_ok, Sem.run_pure, hb, and_self, if_true, run_szOf hs, add_at]; rfl
        · cases h
      · cases h
    · rename_i len e k o ht
      split at h
      · rename_i sz hs
        split at h
        · rename_i hb
          injection h with h
          subst h
          cases hu with | w hu => cases hu with | c hu => cases hu with | p hk =>
            refine ⟨_, .p hk, fun w => ?_⟩
            simp only [Instr.indexAt, ptrOf, Instr.sureAddr, asIntOf, Sem.run_bind, run_underlying ht, Result.andThen_ok, Sem.run_pure, hb, and_self, if_true, run_szOf hs, add_at]
        · cases h
      · cases h
    · cases h
  · cases h
def opIndex (P : Program) (t : TypeId) (x i : V) : Option Wv := match i with
  | .w (.c (.i _ n)) => match P.underlying t, x with
    | some (.array len e), .w (.a cs) => match szOf P e with
      | some sz => if 0 ≤ n ∧ n < len then partC P e cs (n.toNat * sz) else none
      | none => none
    | some .string, .w (.c (.s s)) => if 0 ≤ n then match s[n.toNat]? with
      | some b => some (.c (.i .u8 b.toNat))
      | none => none
      else none
    | _, _ => none
  | _ => none
theorem opIndex_ok {P : Program} {r : Nm} {t : TypeId} {x i : V} {c : Wv} {u v : Value} (h : opIndex P t x i = some c) (hu : VR r x u) (hv : VR r i v) : ∃ z, WR r c z ∧ ∀ w, (Instr.index t u v).run P w = .ok z w := by
  unfold opIndex at h
  split at h
  · rename_i ik n
    cases hv with | w hv => cases hv with | c hv => cases hv with | i =>
    split at h
    · rename_i len e cs ht
      split at h
      · rename_i sz hs
        split at h
        · rename_i hb
          cases hu with | w hu => cases hu with | a hu =>
            obtain ⟨z, h1, h2⟩ := partC_ok hu h
            refine ⟨z, h1, fun w => ?_⟩
            simp only [Instr.index, asIntOf, Sem.run_bind, run_underlying ht, Result.andThen_ok, Sem.run_pure, hb, and_self, if_true, run_szOf hs, h2]
        · cases h
      · cases h
    · rename_i s ht
      split at h
      · rename_i h0
        split at h
        · rename_i b hb
          injection h with h
          subst h
          cases hu with | w hu => cases hu with | c hu => cases hu with | s =>
            refine ⟨_, .c (.i _ _), fun w => ?_⟩
            simp only [Instr.index, asIntOf, Sem.run_bind, run_underlying ht, Result.andThen_ok, Sem.run_pure, h0, if_true, hb]
        · cases h
      · cases h
    · cases h
  · cases h
def opExtract (x : V) (i : Nat) : Option Wv := match x with
  | .t xs => xs[i]?
  | _ => none
theorem WsR.get {r : Nm} {xs : List Wv} {vs : List Value} (h : WsR r xs vs) : ∀ (i : Nat) (c : Wv), xs[i]? = some c → ∃ v, vs[i]? = some v ∧ WR r c v := by
  induction h with
  | nil => intro i c h; simp at h
  | cons h t ih =>
    intro i c hc
    cases i with
    | zero => simp at hc; subst hc; exact ⟨_, rfl, h⟩
    | succ i => simpa using ih i c (by simpa using hc)
theorem opExtract_ok {P : Program} {r : Nm} {x : V} {i : Nat} {c : Wv} {u : Value} (h : opExtract x i = some c) (hu : VR r x u) : ∃ z, WR r c z ∧ ∀ w, (Instr.extract u i).run P w = .ok z w := by
  unfold opExtract at h
  split at h
  · cases hu with | t hu =>
      obtain ⟨z, h1, h2⟩ := hu.get i c h
      refine ⟨z, h2, fun w => ?_⟩
      simp [Instr.extract, h1]
  · cases h
/-- a bound of a slice expression -/
def bnd (x : Option V) (d : Nat) (y : Nat) : Option Nat := match x with
  | none => some d
  | some (.w (.c (.i _ n))) => if 0 ≤ n ∧ n ≤ y then some n.toNat else none
  | some _ => none
inductive OR (r : Nm) : Option V → Option Value → Prop where
  | none : OR r none none
  | some {x u} (h : VR r x u) : OR r (some x) (some u)
def opSlice (P : Program) (t : TypeId) (x : V) (lo hi mx : Option V) : Option C := match mx with
  | some _ => none
  | none => match P.underlying t, x with
    | some .string, .w (.c (.s s)) => match bnd hi s.size s.size with
      | none => none
      | some h => match bnd lo 0 h with
        | none => none
        | some l => some (.s (s.extract l h))
    | some (.slice e), .w (.c (.l a n (.k c))) => match szOf P e with
      | none => none
      | some sz => match bnd hi n c with
        | none => none
        | some h => match bnd lo 0 h with
          | none => none
          | some l => some (.l (if c = l then a else a.map fun (k, o) => (k, o + l * sz)) (h - l) (.k (c - l)))
    | some (.slice e), .w (.c (.l (some (k, o)) n (.u es))) => match szOf P e with
      | none => none
      | some sz => match bnd hi n n with
        | none => none
        | some h => match bnd lo 0 h with
          | none => none
          | some l => if l = 0 then some (.l (some (k, o)) h (.u es)) else if l < n ∧ es = sz then some (.l (some (k, o + l * sz)) (h - l) (.u es)) else none
    | some (.array n e), .w (.c (.p (some (k, o)))) => match szOf P e with
      | none => none
      | some sz => match bnd hi n n with
        | none => none
        | some h => match bnd lo 0 h with
          | none => none
          | some l => some (.l (some (k, if n = l then o else o + l * sz)) (h - l) (.k (n - l)))
    | _, _ => none
theorem bnd_ok {P : Program} {r : Nm} {x : Option V} {u : Option Value} {d y m : Nat} {code : BoundsCode} (h : bnd x d y = some m) (hu : OR r x u) (w : World) (z : Nat) (hz : y ≤ z) :
    ((match u with | some v => Instr.sliceBound v z code | none => pure d) : Sem Nat).run P w = .ok m w ∧ (u ≠ none → m ≤ y) := by
  unfold bnd at h
  split at h
  · injection h with h
    subst h
    cases hu with | none => exact ⟨rfl, fun h => absurd rfl h⟩
  · rename_i k n
    split at h
    · rename_i hb
      injection h with h
      subst h
      cases hu with | some hu => cases hu with | w hu => cases hu with | c hu => cases hu with | i =>
        refine ⟨?_, fun _ => by omega⟩
        have : (0 ≤ n ∧ n ≤ (z : Int)) := ⟨hb.1, by have := hb.2; omega⟩
        simp only [Instr.sliceBound, asIntOf, Sem.run_bind, Sem.run_pure, Result.andThen_ok, this, and_self, if_true]
    · cases h
  · cases h
theorem bounds_ok {P : Program} {r : Nm} {lo hi : Option V} {ul uh : Option Value} {b : Bool} {len cap h l : Nat} (e1 : bnd hi len cap = some h) (e2 : bnd lo 0 h = some l) (h1 : OR r lo ul) (h2 : OR r hi uh) (w : World) {c : Nat} (hc : cap ≤ c) :
    (Instr.sliceBounds b len c ul uh none).run P w = .ok (l, h, c) w := by
  have a1 := (bnd_ok (P := P) (code := if b then .sliceAcap else .sliceAlen) e1 h2 w c hc).1
  have a2 := (bnd_ok (P := P) (code := .sliceB) e2 h1 w h (Nat.le_refl _)).1
  unfold Instr.sliceBounds
  cases uh <;> cases ul <;> simp_all [Sem.run_bind]
end Go.Proofs.YtagajjilccjplaaGreat
end
