/- Joined: Pa6, Pa7, Pa8, Pa9, PaB. -/
import Derived.Deep.RegionLaw
import Derived.Deep.AppendLies
import Derived.Deep.DeepCutAuto
import Derived.Test.YtagajjilccjplaaGreatMgFamilyPasses7
section
set_option linter.unusedVariables false
set_option linter.unusedSimpArgs false
/- Rows that a call owns, apart from one another and from one block; and what a topology's table holds (plain lists). -/
namespace Go.Proofs.YtagajjilccjplaaGreat
open Go.RowKit

structure ORow where
  e : TypeId
  v : Value
  n : Nat
  xs : List Value
/-- rows that are owned, apart from one another and from block b -/
structure Apart (w : World) (B b : Nat) (l : List ORow) : Prop where
  own : ∀ r ∈ l, w.ownsRow B r.e 1 r.v r.n r.xs
  ne : ∀ (i j : Nat) (r s : ORow), l[i]? = some r → l[j]? = some s → i ≠ j → ∀ g, r.v.ownBlock = some g → s.v.ownBlock ≠ some g
  nb : ∀ r ∈ l, r.v.ownBlock ≠ some b
section
variable {w w' : World} {B b : Nat} {l : List ORow}
theorem Apart.below (h : Apart w B b l) (k : Below w.heap.size w w') : Apart w' B b l := ⟨fun r hr => own_below (h.own r hr) k, h.ne, h.nb⟩
/-- a store to the block itself -/
theorem Apart.turn (h : Apart w B b l) (k : Turns [b] w w') : Apart w' B b l :=
  ⟨fun r hr => Turns.own (h.own r hr) k (fun g hg hm => h.nb r hr (by simp at hm; rw [← hm]; exact hg)), h.ne, h.nb⟩
/-- row number i turns -/
theorem Apart.app (h : Apart w B b l) {i : Nat} {r : ORow} (hi : l[i]? = some r) (hb : b < w.heap.size) (hg : w.grownBy w' r.v.ownBlock) {v' : Value} {n' : Nat} {xs' : List Value} (ho : w'.ownsRow B r.e 1 v' n' xs')
    (hat : v'.ownBlock = r.v.ownBlock ∨ ∃ g, w.heap.size ≤ g ∧ v'.ownBlock = some g) : Apart w' B b (l.set i ⟨r.e, v', n', xs'⟩) := by
  have hil : i < l.length := (List.getElem?_eq_some_iff.1 hi).1
  have hlt : ∀ s ∈ l, ∀ g, s.v.ownBlock = some g → g < w.heap.size := fun s hs g hg => ((h.own s hs).lt g hg).2
  have hset : ∀ (j : Nat) (s : ORow), (l.set i ⟨r.e, v', n', xs'⟩)[j]? = some s → (j = i ∧ s = ⟨r.e, v', n', xs'⟩) ∨ (j ≠ i ∧ l[j]? = some s) := fun j s hj => by
    rw [List.getElem?_set] at hj
    by_cases e : i = j
    · subst e
      rw [if_pos rfl, if_pos hil] at hj
      injection hj with hj
      exact .inl ⟨rfl, hj.symm⟩
    · rw [if_neg e] at hj
      exact .inr ⟨fun h => e h.symm, hj⟩
  have hother : ∀ (j : Nat) (s : ORow), l[j]? = some s → j ≠ i → w'.ownsRow B s.e 1 s.v s.n s.xs := fun j s hj hne => by
    cases hv : r.v.ownBlock with
    | none =>
      rw [hv] at hg
      exact Turns.own (S := []) (h.own s (List.mem_of_getElem? hj)) ⟨hg.os, hg.tape, hg.output, hg.size, fun i hi _ => hg.block i hi (by simp)⟩ (fun _ _ => by simp)
    | some g =>
      rw [hv] at hg
      exact Turns.own (h.own s (List.mem_of_getElem? hj)) (Turns.grown hg) (fun g' hg' hm => by
        simp at hm
        subst hm
        exact h.ne i j r s hi hj (fun e => hne e.symm) g' hv hg')
  have hnew : ∀ g, v'.ownBlock = some g → r.v.ownBlock = some g ∨ w.heap.size ≤ g := fun g hg' => by
    rcases hat with e | ⟨c, hc, e⟩
    · exact .inl (by rw [← e]; exact hg')
    · rw [e] at hg'; injection hg' with hg'; exact .inr (by omega)
  refine ⟨fun s hs => ?_, fun j k s t hj hk hne g hg1 hg2 => ?_, fun s hs hsb => ?_⟩
  · obtain ⟨j, hj⟩ := List.getElem?_of_mem hs
    rcases hset j s hj with ⟨rfl, rfl⟩ | ⟨e, hj'⟩
    · exact ho
    · exact hother j s hj' e
  · rcases hset j s hj with ⟨rfl, rfl⟩ | ⟨e1, hj'⟩
    · rcases hset k t hk with ⟨rfl, rfl⟩ | ⟨e2, hk'⟩
      · exact hne rfl
      · rcases hnew g hg1 with hx | hx
        · exact h.ne j k r t hi hk' hne g hx hg2
        · have := hlt t (List.mem_of_getElem? hk') g hg2; omega
    · rcases hset k t hk with ⟨rfl, rfl⟩ | ⟨e2, hk'⟩
      · rcases hnew g hg2 with hx | hx
        · exact h.ne j k s r hj' hi hne g hg1 hx
        · have := hlt s (List.mem_of_getElem? hj') g hg1; omega
      · exact h.ne j k s t hj' hk' hne g hg1 hg2
  · obtain ⟨j, hj⟩ := List.getElem?_of_mem hs
    rcases hset j s hj with ⟨rfl, rfl⟩ | ⟨e, hj'⟩
    · rcases hnew b hsb with hx | hx
      · exact h.nb r (List.mem_of_getElem? hi) hx
      · omega
    · exact h.nb s (List.mem_of_getElem? hj') hsb
theorem Apart.nil (w : World) (B b : Nat) : Apart w B b [] := ⟨by simp, by simp, by simp⟩
/-- a row of nothing comes in -/
theorem Apart.push (h : Apart w B b l) (e : TypeId) : Apart w B b (l ++ [⟨e, .slice none 0 0, 0, []⟩]) := by
  have hget : ∀ (j : Nat) (s : ORow), (l ++ [⟨e, .slice none 0 0, 0, []⟩])[j]? = some s → l[j]? = some s ∨ s = ⟨e, .slice none 0 0, 0, []⟩ := fun j s hj => by
    rw [List.getElem?_append] at hj
    split at hj
    · exact .inl hj
    · rw [List.getElem?_singleton] at hj
      split at hj
      · injection hj with hj; exact .inr hj.symm
      · cases hj
  refine ⟨fun r hr => ?_, fun i j r s hi hj hne g h1 h2 => ?_, fun r hr => ?_⟩
  · rcases List.mem_append.1 hr with hr | hr
    · exact h.own r hr
    · simp at hr; subst hr; exact World.ownsRow_nil _ _ _ _
  · rcases hget i r hi with a | a
    · rcases hget j s hj with c | c
      · exact h.ne i j r s a c hne g h1 h2
      · subst c; cases h2
    · subst a; cases h1
  · rcases List.mem_append.1 hr with hr | hr
    · exact h.nb r hr
    · simp at hr; subst hr; simp [Value.ownBlock]
end

/-- up from a place to the root -/
def upF (P : List Int) : Nat → Int → List Int
  | 0, _ => []
  | f + 1, v => if 0 ≤ v ∧ v < P.length then v :: upF P f (P.getD v.toNat 0) else []
def upL (P : List Int) (v : Int) : List Int := upF P P.length v
def nodesTo (P T : List Int) (k : Nat) : List Int := (T.take k).map (idxI (leavesL P))
def slotOf (T : List Int) (i : Nat) : Int := (((T.take i).count (T.getD i 0) : Nat) : Int)
def slotsTo (T : List Int) (k : Nat) : List Int := (List.range k).map (slotOf T)
def matesTo (P T : List Int) (k : Nat) : List Int := (leavesL P).map fun leaf => (((T.take k).count leaf : Nat) : Int)
theorem upF_fuel {P : List Int} (h : treeB P = true) : ∀ (f : Nat) (v : Int), v < f → ∀ g : Nat, v < g → upF P f v = upF P g v
  | 0, v, hv, g, hg => by
    cases g with
    | zero => rfl
    | succ g => unfold upF; rw [if_neg (by omega)]
  | f + 1, v, hv, g, hg => by
    cases g with
    | zero => unfold upF; rw [if_neg (by omega)]
    | succ g =>
      unfold upF
      split
      · rename_i hb
        obtain ⟨p, hp⟩ := getElem?_lt (show v.toNat < P.length by omega)
        have := tree_lt h hp
        rw [getD_of hp, upF_fuel h f p (by omega) g (by omega)]
      · rfl
theorem upL_step {P : List Int} (h : treeB P = true) {v : Nat} {p : Int} (hp : P[v]? = some p) : upL P v = (v : Int) :: upL P p := by
  have hlt := (List.getElem?_eq_some_iff.1 hp).1
  have hpl := tree_lt h hp
  unfold upL
  rw [upF_fuel h P.length v (by omega) (v + 1) (by omega)]
  show (if 0 ≤ (v : Int) ∧ (v : Int) < P.length then (v : Int) :: upF P v (P.getD (v : Int).toNat 0) else []) = _
  rw [if_pos (by omega), Int.toNat_natCast, getD_of hp]
  by_cases h0 : 0 ≤ p
  · rw [upF_fuel h v p (by omega) P.length (by omega)]
  · cases v with
    | zero =>
      show _ :: [] = _ :: upF P P.length p
      cases hn : P.length with
      | zero => rfl
      | succ n => unfold upF; rw [if_neg (by omega)]
    | succ v =>
      cases hn : P.length with
      | zero => omega
      | succ n => unfold upF; rw [if_neg (by omega), if_neg (by omega)]
theorem upL_neg {P : List Int} {p : Int} (h : p < 0) : upL P p = [] := by
  unfold upL
  cases hn : P.length with
  | zero => rfl
  | succ n => unfold upF; rw [if_neg (by omega)]
end Go.Proofs.YtagajjilccjplaaGreat
end
section
set_option linter.unusedVariables false
set_option linter.unusedSimpArgs false
/- path.find. -/
namespace Go.Proofs.YtagajjilccjplaaGreat
open Go.RowKit

/-- the table's cells -/
def tabC (vP vT : Value) (d m : Int) (vU vN vS vM : Value) : Array Value := #[vP, vT, .int .u32 d, .int .i32 m, .int .u32 0, vU, vN, vS, vM]
def intRow (v : Value) (l : List Int) : ORow := ⟨3, v, l.length, l.flatMap encI⟩
def upRow (us : List Value) (v : Value) : ORow := ⟨28, v, us.length, us⟩
/-- in the middle of find: k threads are done -/
structure FindIs (w0 w : World) (b : Nat) (vP vT : Value) (P T : List Int) (vL vU vN vS vM : Value) (us : List ORow) (k : Nat) : Prop where
  blk : Blk w b 129 (tabC vP vT 0 1 vU vN vS vM)
  rows : Apart w w0.heap.size b ([intRow vL (leavesL P), intRow vM (matesTo P T k), intRow vN (nodesTo P T k), intRow vS (slotsTo T k), upRow (us.map (·.v)) vU] ++ us)
  len : us.length = k
  up : ∀ (i : Nat) (x : Int) (r : ORow), T[i]? = some x → us[i]? = some r → r = intRow r.v (upL P x)
  bel : Turns [b] w0 w
theorem mates_zero (P T : List Int) : (matesTo P T 0).flatMap encI = (List.range (leavesL P).length).map fun _ => Value.int .i64 0 := by
  rw [flatI]
  unfold matesTo
  rw [List.map_map]
  refine List.ext_getElem? fun i => ?_
  simp only [List.getElem?_map, Function.comp_def]
  by_cases h : i < (leavesL P).length
  · simp [h]
  · simp [h]
theorem Apart.single (w : World) (B b : Nat) (r : ORow) (h : w.ownsRow B r.e 1 r.v r.n r.xs) (hb : r.v.ownBlock ≠ some b) : Apart w B b [r] := by
  refine ⟨by simpa using h, fun i j x y hi hj hne => ?_, by simpa using hb⟩
  have e1 : i = 0 := by have := (List.getElem?_eq_some_iff.1 hi).1; simpa using this
  have e2 : j = 0 := by have := (List.getElem?_eq_some_iff.1 hj).1; simpa using this
  omega
/-- the table's block, the rows, what has turned -/
structure FindG (w0 w : World) (b : Nat) (cs : Array Value) (l : List ORow) : Prop where
  blk : Blk w b 129 cs
  rows : Apart w w0.heap.size b l
  bel : Turns [b] w0 w
section
variable {w0 w w' : World} {b : Nat} {cs : Array Value} {l : List ORow}
theorem FindG.below (h : FindG w0 w b cs l) (k : Below w.heap.size w w') : FindG w0 w' b cs l := ⟨h.blk.below k h.blk.lt, h.rows.below k, h.bel.trans (Turns.of_below k)⟩
theorem turns_row {row : Option Nat} (h : Turns [b] w0 w) (k : w.grownBy w' row) (hr : ∀ g, row = some g → w0.heap.size ≤ g) : Turns [b] w0 w' := by
  cases row with
  | none => exact h.trans ⟨k.os, k.tape, k.output, k.size, fun i hi _ => k.block i hi (by simp)⟩
  | some g =>
    have h1 : Turns [b, g] w0 w' := (h.mono (by simp)).trans ((Turns.grown k).mono (by simp))
    exact h1.fresh (by
      intro i hi
      simp only [List.mem_cons, List.not_mem_nil, or_false] at hi
      rcases hi with rfl | rfl
      · exact .inl (by simp)
      · exact .inr (hr _ rfl))
/-- one more in row i, and its slice's header stored in the table's cell c -/
theorem FindG.app (h : FindG w0 w b cs l) {i : Nat} {r : ORow} (hi : l[i]? = some r) (o : Obj) (hg : (w.alloc o).grownBy w' r.v.ownBlock) {v' : Value} {n' : Nat} {xs' : List Value} (ho : w'.ownsRow w0.heap.size r.e 1 v' n' xs')
    (hat : v'.ownBlock = r.v.ownBlock ∨ v'.ownBlock = some (w.heap.size + 1)) (c : Nat) :
    FindG w0 (w'.setCell ⟨b, c, none⟩ v') b (cs.setIfInBounds c v') (l.set i ⟨r.e, v', n', xs'⟩) := by
  have hb1 : Below w.heap.size w (w.alloc o) := (Below.refl _ _).alloc (Nat.le_refl _) o
  have h1 := h.below hb1
  have hsz : (w.alloc o).heap.size = w.heap.size + 1 := by simp
  have hT : Turns [b] w' (w'.setCell ⟨b, c, none⟩ v') := Turns.setCell (Turns.refl [b] w') (.inl (by simp)) _
  have hrm := List.mem_of_getElem? hi
  refine ⟨?_, (h1.rows.app hi h1.blk.lt hg ho (hat.imp id fun e => ⟨_, Nat.le_of_eq hsz, e⟩)).turn hT, (turns_row h1.bel hg (fun g e => ((h1.rows.own r hrm).lt g e).1)).trans hT⟩
  exact (h1.blk.grown hg (fun e => h.rows.nb r hrm e.symm)).set_ c v'
/-- a cell of row i is stored -/
theorem FindG.put (h : FindG w0 w b cs l) {i : Nat} {r : ORow} (hi : l[i]? = some r) {g j : Nat} (hg : r.v.ownBlock = some g) (u : Value) {xs' : List Value} (ho : (w.setCell ⟨g, j, none⟩ u).ownsRow w0.heap.size r.e 1 r.v r.n xs') :
    FindG w0 (w.setCell ⟨g, j, none⟩ u) b cs (l.set i ⟨r.e, r.v, r.n, xs'⟩) := by
  have hgr : w.grownBy (w.setCell ⟨g, j, none⟩ u) r.v.ownBlock := by rw [hg]; exact grown_set (grown_refl _ _) j u
  have hrm := List.mem_of_getElem? hi
  refine ⟨h.blk.grown hgr (fun e => h.rows.nb r hrm e.symm), h.rows.app hi h.blk.lt hgr ho (.inl rfl), turns_row h.bel hgr (fun g e => ((h.rows.own r hrm).lt g e).1)⟩
/-- one more in row i; its header lies in a variable -/
theorem FindG.grow (h : FindG w0 w b cs l) {i : Nat} {r : ORow} (hi : l[i]? = some r) (o : Obj) (hg : (w.alloc o).grownBy w' r.v.ownBlock) {v' : Value} {n' : Nat} {xs' : List Value} (ho : w'.ownsRow w0.heap.size r.e 1 v' n' xs')
    (hat : v'.ownBlock = r.v.ownBlock ∨ v'.ownBlock = some (w.heap.size + 1)) : FindG w0 w' b cs (l.set i ⟨r.e, v', n', xs'⟩) := by
  have hb1 : Below w.heap.size w (w.alloc o) := (Below.refl _ _).alloc (Nat.le_refl _) o
  have h1 := h.below hb1
  have hsz : (w.alloc o).heap.size = w.heap.size + 1 := by simp
  have hrm := List.mem_of_getElem? hi
  exact ⟨h1.blk.grown hg (fun e => h.rows.nb r hrm e.symm), h1.rows.app hi h1.blk.lt hg ho (hat.imp id fun e => ⟨_, Nat.le_of_eq hsz, e⟩), turns_row h1.bel hg (fun g e => ((h1.rows.own r hrm).lt g e).1)⟩
theorem FindG.push (h : FindG w0 w b cs l) (e : TypeId) : FindG w0 w b cs (l ++ [⟨e, .slice none 0 0, 0, []⟩]) := ⟨h.blk, h.rows.push e, h.bel⟩
end
theorem FindIs.g {w0 w : World} {b : Nat} {vP vT : Value} {P T : List Int} {vL vU vN vS vM : Value} {us : List ORow} {k : Nat} (h : FindIs w0 w b vP vT P T vL vU vN vS vM us k) :
    FindG w0 w b (tabC vP vT 0 1 vU vN vS vM) ([intRow vL (leavesL P), intRow vM (matesTo P T k), intRow vN (nodesTo P T k), intRow vS (slotsTo T k), upRow (us.map (·.v)) vU] ++ us) := ⟨h.blk, h.rows, h.bel⟩
theorem nodesTo_len {P T : List Int} {k : Nat} (h : k ≤ T.length) : (nodesTo P T k).length = k := by unfold nodesTo; simp; omega
theorem slotsTo_len (T : List Int) (k : Nat) : (slotsTo T k).length = k := by simp [slotsTo]
theorem matesTo_len (P T : List Int) (k : Nat) : (matesTo P T k).length = (leavesL P).length := by simp [matesTo]
theorem nodes_snoc {P T : List Int} {k : Nat} {x : Int} (h : T[k]? = some x) : nodesTo P T (k + 1) = nodesTo P T k ++ [idxI (leavesL P) x] := by unfold nodesTo; rw [take_succ_of h, List.map_append]; rfl
theorem idx_get {l : List Int} {x : Int} {nd : Nat} (hm : x ∈ l) (h : idxI l x = nd) : l[nd]? = some x := by
  unfold idxI at h
  rw [if_pos hm] at h
  have e : l.idxOf x = nd := by omega
  have hlt := List.idxOf_lt_length_of_mem hm
  rw [← e, List.getElem?_eq_getElem hlt, List.getElem_idxOf hlt]
theorem mates_get {P T : List Int} {k nd : Nat} {x : Int} (h : (leavesL P)[nd]? = some x) : ((matesTo P T k).flatMap encI)[nd]? = some (.int .i64 (((T.take k).count x : Nat) : Int)) := by
  rw [flatI]
  unfold matesTo
  simp [h]
theorem Tryz.infoSl : (Tryz.prog.info? 28).map (fun i => (i.zero, i.size, i.bytes)) = some (some (.slice none 0 0), 1, 24) := by kernel_rfl
theorem last_get {α : Type} (l : List α) (a : α) (i : Nat) (h : i = l.length) : (l ++ [a])[i]? = some a := by subst h; simp
theorem last_set {α : Type} (l : List α) (a c : α) (i : Nat) (h : i = l.length) : (l ++ [a]).set i c = l ++ [c] := by subst h; simp
theorem upF_le (P : List Int) : ∀ (f : Nat) (v : Int), (upF P f v).length ≤ f
  | 0, _ => Nat.le_refl _
  | f + 1, v => by
    unfold upF
    split
    · have := upF_le P f (P.getD v.toNat 0)
      rw [List.length_cons]; omega
    · simp
theorem upL_le (P : List Int) (v : Int) : (upL P v).length ≤ P.length := upF_le P _ _
theorem leaves_nodup (P : List Int) : (leavesL P).Nodup := by
  unfold leavesL leavesTo
  exact List.Pairwise.filter _ (List.Pairwise.map Int.ofNat (fun a b h e => h (Int.ofNat.inj e)) List.nodup_range)
theorem mates_snoc {P T : List Int} {k nd : Nat} {x : Int} (h : T[k]? = some x) (hn : (leavesL P)[nd]? = some x) :
    ((matesTo P T k).flatMap encI).set nd (.int .i64 ((((T.take k).count x : Nat) : Int) + 1)) = (matesTo P T (k + 1)).flatMap encI := by
  rw [flatI, flatI]
  unfold matesTo
  rw [List.map_map, List.map_map]
  refine List.ext_getElem? fun j => ?_
  rw [List.getElem?_set]
  have hnl := (List.getElem?_eq_some_iff.1 hn).1
  by_cases e : nd = j
  · subst e
    rw [if_pos rfl, List.length_map, if_pos hnl, List.getElem?_map, hn, take_succ_of h]
    simp
  · rw [if_neg e, List.getElem?_map, List.getElem?_map, take_succ_of h]
    cases hj : (leavesL P)[j]? with
    | none => rfl
    | some y =>
      have hne : y ≠ x := by
        rintro rfl
        obtain ⟨a1, a2⟩ := List.getElem?_eq_some_iff.1 hn
        obtain ⟨b1, b2⟩ := List.getElem?_eq_some_iff.1 hj
        exact e ((List.getElem_inj (leaves_nodup P)).1 (a2.trans b2.symm))
      simp [List.count_append, List.count_singleton, Ne.symm hne]
theorem slots_snoc {T : List Int} {k : Nat} {x : Int} (h : T[k]? = some x) : slotsTo T (k + 1) = slotsTo T k ++ [(((T.take k).count x : Nat) : Int)] := by
  unfold slotsTo
  rw [List.range_succ, List.map_append]
  show _ ++ [slotOf T k] = _
  unfold slotOf
  rw [getD_of h]
set_option maxRecDepth 100000 in
set_option maxHeartbeats 8000000 in
theorem find_any (w : World) (b : Nat) (AP AT : Option Addr) (cP cT : Nat) (P T : List Int) (hc : chkT P T = 0)
    (hB : Blk w b 129 (tabC (.slice AP P.length cP) (.slice AT T.length cT) 0 1 nilS nilS nilS nilS))
    (hP : RdL w (.slice AP P.length cP) 1 encI P) (hT : RdL w (.slice AT T.length cT) 1 encI T)
    (nP : ∀ g, (Value.slice AP P.length cP).ownBlock = some g → g ≠ b) (nT : ∀ g, (Value.slice AT T.length cT).ownBlock = some g → g ≠ b) :
    Calls Tryz.prog 93 #[.pointer (some ⟨b, 0, none⟩)] w fun e w' => e = .returned (.tuple #[]) ∧ ∃ vL vU vN vS vM us, FindIs w w' b (.slice AP P.length cP) (.slice AT T.length cT) P T vL vU vN vS vM us T.length := by
  obtain ⟨i0, hi, hz0, hz1, hz2⟩ := info_parts Tryz.infoIn
  have HI := Lib.hid (And.intro hi (And.intro hz0 (And.intro hz1 hz2)))
  clear hi hz0 hz1 hz2
  obtain ⟨j0, hi, hz0, hz1, hz2⟩ := info_parts Tryz.infoSl
  have HJ := Lib.hid (And.intro hi (And.intro hz0 (And.intro hz1 hz2)))
  clear hi hz0 hz1 hz2
  obtain ⟨hm, htr, hev, hthr⟩ := chk_ok hc
  have hml := many_lt hm
  have hll := leavesTo_len P P.length
  have hl5 : (leavesL P).length ≤ 32 := by show (leavesTo P P.length).length ≤ _; omega
  have hlv : lvsT P T = leavesL P := by unfold lvsT; rw [if_pos hc]
  have HBl := Lib.hid hB
  have HPT := Lib.hid (And.intro hP hT)
  have HNB := Lib.hid (And.intro nP nT)
  have HCK := Lib.hid (And.intro htr hthr)
  have hbl := hB.lt
  have f0 := hB.cell 0
  have f1 := hB.cell 1
  have HTL := Lib.hid (tleaves_any w _ _ P T hP hT)
  rw [hlv] at HTL
  simp only [tabC] at f0 f1
  clear hc hB hP hT nP nT hm htr hev hthr hll hlv
  go_enter Tryz.func93, Tryz.ntmps93
  go_wp2_with fail
  refine HTL.out.mono ?_
  rintro en w1 ⟨v2, rfl, o2, b2⟩
  obtain ⟨A2, c2, rfl⟩ := own_form o2
  have B2 := Lib.hid (HBl.out.below b2 hbl)
  have hs2 := b2.size
  have c8 := B2.out.cell 8
  have z8 := B2.out.free 8
  simp only [tabC, nilS] at c8
  have A0 := Lib.hid (Apart.single w1 w.heap.size b (intRow (.slice A2 (leavesL P).length c2) (leavesL P)) o2 (fun e => by have := (o2.lt _ e).1; omega))
  have K2 := Lib.hid b2
  clear o2 b2 f0 f1
  go_wp2_with (refine wpList_make_full _ rfl (.tmp 15) (.tmp 15) 28 rfl w1.heap.size 3 i0 (.int .i64 0) 1 Tryz.underlying28 HI.out.1 HI.out.2.1 HI.out.2.2.1 .i64 .i64 (leavesL P).length (leavesL P).length (leavesL P).length rfl rfl rfl rfl ?b2 ?b3 (Nat.le_refl _) ?_)
  case b2 => rw [HI.out.2.2.2]; omega
  case b3 => unfold maxLen; omega
  intro w3 hown hg
  have hown1 : w3.ownsRow w1.heap.size 3 1 (.slice (some ⟨w1.heap.size, 0, none⟩) (leavesL P).length (leavesL P).length) (leavesL P).length ((matesTo P T 0).flatMap encI) := by
    rw [made_const, ← mates_zero P T] at hown
    exact hown
  have hb3 : Below w1.heap.size w1 w3 := (Below.refl w1.heap.size w1).grown hg (Nat.le_refl _) (fun j hj => by cases hj)
  have B3 := Lib.hid (B2.out.below hb3 B2.out.lt)
  have d8 := B3.out.cell 8
  have y8 := B3.out.free 8
  have d1 := B3.out.cell 1
  simp only [tabC, nilS] at d8 d1
  have HO := Lib.hid (And.intro hown1 (And.intro hg hb3))
  clear hown hown1 hg hb3 c8 z8
  have HF0 : FindIs w (w3.setCell ⟨b, 8, none⟩ (.slice (some ⟨w1.heap.size, 0, none⟩) (leavesL P).length (leavesL P).length)) b (.slice AP P.length cP) (.slice AT T.length cT) P T (.slice A2 (leavesL P).length c2) nilS nilS nilS (.slice (some ⟨w1.heap.size, 0, none⟩) (leavesL P).length (leavesL P).length) [] 0 := by
    have hbw1 : b < w1.heap.size := by omega
    have a1 := (A0.out.push 3).app (i := 1) (w' := w3) (v' := .slice (some ⟨w1.heap.size, 0, none⟩) (leavesL P).length (leavesL P).length) (n' := (matesTo P T 0).length) (xs' := (matesTo P T 0).flatMap encI) rfl hbw1 HO.out.2.1 (by
      have h := own_lower HO.out.1 K2.out.size
      have e : (matesTo P T 0).length = (leavesL P).length := by simp [matesTo]
      rw [e]; exact h) (.inr ⟨_, Nat.le_refl _, rfl⟩)
    have a2 := a1.turn (w' := w3.setCell ⟨b, 8, none⟩ (.slice (some ⟨w1.heap.size, 0, none⟩) (leavesL P).length (leavesL P).length)) (Turns.setCell (Turns.refl [b] w3) (.inl (by simp)) _)
    refine ⟨B3.out.set_ 8 _, ((a2.push 3).push 3).push 28, rfl, fun i x r _ h => by simp at h, ?_⟩
    exact ((Turns.of_below K2.out).trans (Turns.of_below HO.out.2.2)).trans (Turns.setCell (Turns.refl [b] w3) (.inl (by simp)) _)
  have HFI := Lib.hid HF0
  clear HF0
  go_wp2_with fail
  go_loopw [25] (fun i wr => ∃ (k : Nat) (vU vN vS vM : Value) (us : List ORow), i = .int .i64 k ∧ k ≤ T.length ∧ FindIs w wr b (.slice AP P.length cP) (.slice AT T.length cT) P T (.slice A2 (leavesL P).length c2) vU vN vS vM us k) (fun i _ => T.length - (intOf i).toNat)
  case atStart => exact ⟨0, _, _, _, _, [], rfl, by omega, HFI.out⟩
  case round =>
    obtain ⟨k, vU, vN, vS, vM, us, rfl, hk, hF⟩ := hrel
    obtain ⟨wo, rfl⟩ : ∃ wo : World, wo = wr := ⟨_, rfl⟩
    have HF := Lib.hid hF
    clear hF d1 d8
    by_cases hlt : k < T.length
    · obtain ⟨x, hx⟩ := getElem?_lt hlt
      have hxm := thr_mem HCK.out.2 hx
      have hxl := mem_leavesTo (P := P) (k := P.length) hxm
      obtain ⟨m, rfl⟩ := Int.eq_ofNat_of_zero_le hxl.2.1
      have hmP : m < P.length := by have := hxl.2.2; omega
      have RT := HPT.out.2.turns HF.out.bel (fun g hg hm => by simp at hm; exact HNB.out.2 g hg hm)
      obtain ⟨bT, oT, rfl, hbT, hcT⟩ := rdl_int RT (by omega)
      have q0 := hcT k _ hx
      have RL := own_rdl (HF.out.rows.own (intRow (.slice A2 (leavesL P).length c2) (leavesL P)) (by simp)) (by omega)
      have HIX := Lib.hid (index_any wo _ (leavesL P) m RL)
      obtain ⟨nd, hnd⟩ : ∃ nd : Nat, idxI (leavesL P) m = nd := by
        have h0 := (idx_nonneg (leavesL P) (m : Int)).1.2 hxm
        exact ⟨(idxI (leavesL P) m).toNat, by omega⟩
      have hndl : nd < (leavesL P).length := by have := (idx_nonneg (leavesL P) (m : Int)).2.1; omega
      rw [hnd] at HIX
      have HX := Lib.hid (And.intro hx (And.intro hnd (idx_get hxm hnd)))
      have hoN : wo.ownsRow w.heap.size 3 1 vN (nodesTo P T k).length ((nodesTo P T k).flatMap encI) := HF.out.rows.own (intRow vN (nodesTo P T k)) (by simp)
      rw [nodesTo_len hk] at hoN
      obtain ⟨AN, cN, rfl⟩ := own_form hoN
      have e6 := HF.out.blk.cell 6
      have z6 := HF.out.blk.free 6
      simp only [tabC] at e6
      clear hx hxm hxl RT hcT RL hnd
      go_wp2_with (first
        | (go_at_call 108; refine HIX.out.mono ?_; rintro e w' ⟨rfl, rfl⟩)
        | (at_builtin; go_loud (refine wpList_append_own_at _ rfl _ _ 28 rfl w.heap.size 3 i0 (.int .i64 0) 1 8 Tryz.underlying28 HI.out.1 HI.out.2.1 HI.out.2.2.1 HI.out.2.2.2 rfl (by decide) _ _ _ rfl (hoN.alloc _) ⟨wo.heap.size, 0, none⟩ 1 1 (encI nd) rfl rfl (cell_one_new _ _ _) (one_enc _) ?c3 ?c4 ?c5 ?_)))
      case c3 => unfold maxLen; omega
      case c4 => omega
      case c5 => simp; have := HF.out.bel.size; omega
      intro v' w4 hown' hgrow hnil hat
      obtain ⟨A', c', rfl⟩ := own_form hown'
      have bl4 := (HF.out.blk.alloc (.cells #[.int .i64 nd] 3)).grown hgrow (fun e => HF.out.rows.nb (intRow (.slice AN k cN) (nodesTo P T k)) (by simp) e.symm)
      have e6' := bl4.cell 6
      have z6' := bl4.free 6
      simp only [tabC] at e6'
      obtain ⟨w5, hw5⟩ : ∃ w5, w5 = w4.setCell ⟨b, 6, none⟩ (.slice A' (k + 1) c') := ⟨_, rfl⟩
      have hG1 : FindG w w5 b (tabC (.slice AP P.length cP) (.slice (some ⟨bT, oT, none⟩) T.length cT) 0 1 vU (.slice A' (k + 1) c') vS vM) ([intRow (.slice A2 (leavesL P).length c2) (leavesL P), intRow vM (matesTo P T k), ⟨3, .slice A' (k + 1) c', k + 1, (nodesTo P T k).flatMap encI ++ encI nd⟩, intRow vS (slotsTo T k), upRow (us.map (·.v)) vU] ++ us) := by
        rw [hw5]
        exact HF.out.g.app (i := 2) (r := intRow (.slice AN k cN) (nodesTo P T k)) rfl (.cells #[.int .i64 nd] 3) hgrow hown' hat 6
      rw [show (⟨3, .slice A' (k + 1) c', k + 1, (nodesTo P T k).flatMap encI ++ encI nd⟩ : ORow) = intRow (.slice A' (k + 1) c') (nodesTo P T (k + 1)) from by
        unfold intRow
        rw [nodesTo_len (by omega), nodes_snoc HX.out.1, HX.out.2.1, flat_snoc]] at hG1
      have HG1 := Lib.hid hG1
      clear hown' hgrow hnil hat bl4 hG1 hoN e6 z6 q0
      go_upto_region 7 with fail
      rw [← hw5]
      clear hw5 e6' z6'
      have hoS : w5.ownsRow w.heap.size 3 1 vS (slotsTo T k).length ((slotsTo T k).flatMap encI) := HG1.out.rows.own (intRow vS (slotsTo T k)) (by simp)
      rw [slotsTo_len] at hoS
      obtain ⟨AS, cS, rfl⟩ := own_form hoS
      have hoM : w5.ownsRow w.heap.size 3 1 vM (matesTo P T k).length ((matesTo P T k).flatMap encI) := HG1.out.rows.own (intRow vM (matesTo P T k)) (by simp)
      rw [matesTo_len] at hoM
      obtain ⟨gM, cM, rfl, hgM0, hgM1⟩ := own_form1 hoM (by omega)
      have m0 := hoM.cellAt nd (by omega)
      rw [mates_get HX.out.2.2] at m0
      have HMN := Lib.hid (HG1.out.rows.nb (intRow (.slice AS k cS) (slotsTo T k)) (by simp))
      obtain ⟨ct, hct⟩ : ∃ ct : Nat, ct = (T.take k).count (m : Int) := ⟨_, rfl⟩
      rw [← hct] at m0
      have HCT := Lib.hid hct
      have c7 := HG1.out.blk.cell 7
      have c8 := HG1.out.blk.cell 8
      simp only [tabC] at c7 c8
      have HSM := Lib.hid (And.intro hoS hoM)
      have hb5 : b < w5.heap.size := HG1.out.blk.lt
      clear hct hoS hoM
      go_cut [5] (fun s5 wx => s5 = .int .i64 (nd : Nat) ∧ ∃ vS', FindG w wx b (tabC (.slice AP P.length cP) (.slice (some ⟨bT, oT, none⟩) T.length cT) 0 1 vU (.slice A' (k + 1) c') vS' (.slice (some ⟨gM, 0, none⟩) (leavesL P).length cM)) ([intRow (.slice A2 (leavesL P).length c2) (leavesL P), intRow (.slice (some ⟨gM, 0, none⟩) (leavesL P).length cM) (matesTo P T k), intRow (.slice A' (k + 1) c') (nodesTo P T (k + 1)), intRow vS' (slotsTo T (k + 1)), upRow (us.map (·.v)) vU] ++ us))
      case first =>
        go_region_law ((go_loud ((refine step_append_lies _ rfl _ _ 28 rfl w.heap.size 3 i0 (.int .i64 0) 1 8 Tryz.underlying28 HI.out.1 HI.out.2.1 HI.out.2.2.1 HI.out.2.2.2 rfl (by decide) _ _ _ rfl (show World.ownsRow (w5.alloc (.cells #[.int .i64 ct] 3)).drew w.heap.size 3 1 (.slice AS k cS) k ((slotsTo T k).flatMap encI) from HSM.out.1.alloc _) ⟨w5.heap.size, 0, none⟩ 1 1 (encI ct) rfl rfl (fun j u hj => cell_one_new w5 (.int .i64 ct) 3 j u hj) (one_enc _) (by decide) (by unfold maxLen; omega) (by omega) (by simp; have := HG1.out.bel.size; omega) _ rfl ?_)); intro g6 cap6 w6 h6 hg6 hl6 hlt6; have bl6 := (HG1.out.blk.alloc (.cells #[.int .i64 ct] 3)).drew.grown hg6 (fun e => HMN.out e.symm); have c7' := bl6.cell 7; have z7' := bl6.free 7; simp only [tabC] at c7'))
        all_goals
          have hG2 := (HG1.out.below (w' := w5.drew) (Below.refl _ _).drew).app (i := 3) (r := intRow (.slice AS k cS) (slotsTo T k)) rfl (.cells #[.int .i64 ct] 3) hg6 h6 (hl6.imp (fun e => e.symm) (fun e => by rw [e]; simp [Value.ownBlock])) 7
          have HG2 := Lib.hid hG2
          clear hG2 h6 hg6 hl6
          go_wp2_with fail
          go_meet
          case rel =>
            have h : FindG w ((w6.setCell ⟨b, 7, none⟩ (.slice (some ⟨g6, 0, none⟩) (k + 1) cap6))) b (tabC (.slice AP P.length cP) (.slice (some ⟨bT, oT, none⟩) T.length cT) 0 1 vU (.slice A' (k + 1) c') (.slice (some ⟨g6, 0, none⟩) (k + 1) cap6) (.slice (some ⟨gM, 0, none⟩) (leavesL P).length cM)) ([intRow (.slice A2 (leavesL P).length c2) (leavesL P), intRow (.slice (some ⟨gM, 0, none⟩) (leavesL P).length cM) (matesTo P T k), intRow (.slice A' (k + 1) c') (nodesTo P T (k + 1)), ⟨3, .slice (some ⟨g6, 0, none⟩) (k + 1) cap6, k + 1, (slotsTo T k).flatMap encI ++ encI ct⟩, upRow (us.map (·.v)) vU] ++ us) := HG2.out
            rw [show (⟨3, .slice (some ⟨g6, 0, none⟩) (k + 1) cap6, k + 1, (slotsTo T k).flatMap encI ++ encI ct⟩ : ORow) = intRow (.slice (some ⟨g6, 0, none⟩) (k + 1) cap6) (slotsTo T (k + 1)) from by
              unfold intRow
              rw [slotsTo_len, slots_snoc HX.out.1, ← HCT.out, flat_snoc]] at h
            exact ⟨rfl, _, h⟩
      case rest =>
        obtain ⟨rfl, vS', hG2⟩ := hcut
        have HG2 := Lib.hid hG2
        clear hG2 c7 c8 m0 HMN hb5
        have hoM : wc.ownsRow w.heap.size 3 1 (.slice (some ⟨gM, 0, none⟩) (leavesL P).length cM) (matesTo P T k).length ((matesTo P T k).flatMap encI) := HG2.out.rows.own (intRow (.slice (some ⟨gM, 0, none⟩) (leavesL P).length cM) (matesTo P T k)) (by simp)
        rw [matesTo_len] at hoM
        have m0 := hoM.cellAt nd (by omega)
        rw [mates_get HX.out.2.2, ← HCT.out] at m0
        have y0 := hoM.frozenAt nd
        have hst := hoM.stored nd (.int .i64 ((ct : Int) + 1))
        have c8 := HG2.out.blk.cell 8
        simp only [tabC] at c8
        have hctb : ct ≤ 32 := by
          rw [HCT.out]
          have h1 := List.count_le_length (l := T.take k) (a := (m : Int))
          have h2 := List.length_take_le k T
          omega
        have HST := Lib.hid hst
        clear hst hoM
        go_upto_region 9 with fail
        have hG3 : FindG w (wc.setCell ⟨gM, nd, none⟩ (.int .i64 ((ct : Int) + 1))) b (tabC (.slice AP P.length cP) (.slice (some ⟨bT, oT, none⟩) T.length cT) 0 1 vU (.slice A' (k + 1) c') vS' (.slice (some ⟨gM, 0, none⟩) (leavesL P).length cM)) ([intRow (.slice A2 (leavesL P).length c2) (leavesL P), intRow (.slice (some ⟨gM, 0, none⟩) (leavesL P).length cM) (matesTo P T (k + 1)), intRow (.slice A' (k + 1) c') (nodesTo P T (k + 1)), intRow vS' (slotsTo T (k + 1)), upRow (us.map (·.v)) vU] ++ us) := by
          have h := HG2.out.put (i := 1) (r := intRow (.slice (some ⟨gM, 0, none⟩) (leavesL P).length cM) (matesTo P T k)) rfl (g := gM) (j := nd) rfl (.int .i64 ((ct : Int) + 1)) (xs' := (matesTo P T (k + 1)).flatMap encI) (by
            have h1 := HST.out.1
            rw [HCT.out, mates_snoc HX.out.1 HX.out.2.2, ← HCT.out] at h1
            show World.ownsRow _ _ _ 1 _ (matesTo P T k).length _
            rw [matesTo_len]
            exact h1)
          have e : (⟨3, .slice (some ⟨gM, 0, none⟩) (leavesL P).length cM, (matesTo P T k).length, (matesTo P T (k + 1)).flatMap encI⟩ : ORow) = intRow (.slice (some ⟨gM, 0, none⟩) (leavesL P).length cM) (matesTo P T (k + 1)) := by
            unfold intRow; rw [matesTo_len, matesTo_len]
          rw [← e]
          exact h
        have HG3 := Lib.hid (hG3.push 3)
        clear hG3 m0 y0 c8
        obtain ⟨w7, hw7⟩ : ∃ w7, w7 = wc.setCell ⟨gM, nd, none⟩ (.int .i64 ((ct : Int) + 1)) := ⟨_, rfl⟩
        rw [← hw7] at HG3 ⊢
        clear hw7
        go_wp2_with fail
        go_loopw [6, 7] (fun s6 s7 wr => ∃ (z : Int) (dn : List Int), s7 = .int .i64 z ∧ z < P.length ∧ upL P m = dn ++ upL P z ∧ (dn.length : Int) + z ≤ m ∧ FindG w wr b (tabC (.slice AP P.length cP) (.slice (some ⟨bT, oT, none⟩) T.length cT) 0 1 vU (.slice A' (k + 1) c') vS' (.slice (some ⟨gM, 0, none⟩) (leavesL P).length cM)) (([intRow (.slice A2 (leavesL P).length c2) (leavesL P), intRow (.slice (some ⟨gM, 0, none⟩) (leavesL P).length cM) (matesTo P T (k + 1)), intRow (.slice A' (k + 1) c') (nodesTo P T (k + 1)), intRow vS' (slotsTo T (k + 1)), upRow (us.map (·.v)) vU] ++ us) ++ [intRow s6 dn])) (fun _ s7 _ => (intOf s7 + 1).toNat)
        case atStart => exact ⟨m, [], rfl, by omega, rfl, by simp, HG3.out⟩
        case round =>
          obtain ⟨z, dn, rfl, hz, hup, hdl, hG⟩ := hrel
          obtain ⟨wi, rfl⟩ : ∃ wi : World, wi = wr := ⟨_, rfl⟩
          have HG4 := Lib.hid hG
          have hdm : dn.length ≤ P.length := by
            have h1 := congrArg List.length hup
            rw [List.length_append] at h1
            have h2 : (upL P m).length ≤ P.length := upL_le P m
            omega
          have hoU : wi.ownsRow w.heap.size 3 1 u6 dn.length (dn.flatMap encI) := hG.rows.own (intRow u6 dn) (by simp)
          have HUP := Lib.hid hup
          clear hG hup
          by_cases h0 : 0 ≤ z
          · obtain ⟨n, rfl⟩ := Int.eq_ofNat_of_zero_le h0
            have hn : n < P.length := by omega
            obtain ⟨q, hq⟩ := getElem?_lt hn
            have hql := tree_lt HCK.out.1 hq
            have HQ := Lib.hid (upL_step HCK.out.1 hq)
            have HQG := Lib.hid hq
            obtain ⟨A6, c6, rfl⟩ := own_form hoU
            clear hq
            go_wp2_with (at_builtin; go_loud (refine wpList_append_own_at _ rfl _ _ 28 rfl w.heap.size 3 i0 (.int .i64 0) 1 8 Tryz.underlying28 HI.out.1 HI.out.2.1 HI.out.2.2.1 HI.out.2.2.2 rfl (by decide) _ _ _ rfl (hoU.alloc _) ⟨wi.heap.size, 0, none⟩ 1 1 (encI n) rfl rfl (cell_one_new _ _ _) (one_enc _) ?d3 ?d4 ?d5 ?_))
            case d3 => unfold maxLen; omega
            case d4 => omega
            case d5 => simp; have := HG4.out.bel.size; omega
            intro v8 w8 hown8 hgrow8 hnil8 hat8
            have hG8 := HG4.out.grow (i := 5 + us.length) (r := intRow (.slice A6 dn.length c6) dn) (last_get _ _ _ (by simp; omega)) (.cells #[.int .i64 n] 3) hgrow8 hown8 hat8
            rw [last_set _ _ _ _ (by simp; omega)] at hG8
            have HG8 := Lib.hid hG8
            have RP := HPT.out.1.turns hG8.bel (fun g hg hm => by simp at hm; exact HNB.out.1 g hg hm)
            have x0 := hG8.blk.cell 0
            simp only [tabC] at x0
            obtain ⟨bP, oP, hAP, _, hcP⟩ := rdl_int RP (by omega)
            have x1 := hcP n q HQG.out
            rw [show (⟨(intRow (.slice A6 dn.length c6) dn).e, v8, dn.length + 1, dn.flatMap encI ++ encI n⟩ : ORow) = intRow v8 (dn ++ [(n : Int)]) from by
              unfold intRow; rw [flat_snoc, List.length_append]; rfl] at HG8
            clear hown8 hgrow8 hnil8 hat8 hG8 RP hcP hoU
            subst hAP
            go_wp2
            go_roundw
            case rel => exact ⟨q, dn ++ [(n : Int)], rfl, by omega, by rw [HUP.out, HQ.out]; simp, by simp; omega, HG8.out⟩
            case measure => simp [intOf]; omega
          · have HDN := Lib.hid (show dn = upL P m from by have h := HUP.out; rw [upL_neg (P := P) (p := z) (by omega), List.append_nil] at h; exact h.symm)
            obtain ⟨A6, c6, rfl⟩ := own_form hoU
            have hul : us.length = k := HF.out.len
            have hoV : wi.ownsRow w.heap.size 28 1 vU (us.map (·.v)).length (us.map (·.v)) := by
              have h := HG4.out.rows.own (upRow (us.map fun (r : ORow) => r.v) vU) (by simp)
              exact h
            rw [List.length_map, hul] at hoV
            obtain ⟨AV, cV, rfl⟩ := own_form hoV
            have x5 := HG4.out.blk.cell 5
            simp only [tabC] at x5
            have HUL := Lib.hid hul
            clear hoU hul
            go_wp2_with (at_builtin; go_loud (refine wpList_append_own_at _ rfl _ _ 127 rfl w.heap.size 28 j0 (.slice none 0 0) 1 24 Tryz.underlying127 HJ.out.1 HJ.out.2.1 HJ.out.2.2.1 HJ.out.2.2.2 rfl (by decide) _ _ _ rfl (hoV.alloc _) ⟨wi.heap.size, 0, none⟩ 1 1 [.slice A6 dn.length c6] rfl rfl (cell_one_new _ _ _) (by simp [Value.oneCell']) ?e3 ?e4 ?e5 ?_))
            case e3 => unfold maxLen; omega
            case e4 => omega
            case e5 => have h9 := HG4.out.bel.size; first | omega | (simp; omega) | exact Nat.le_trans h9 (by simp)
            intro v9 w9 hown9 hgrow9 hnil9 hat9
            obtain ⟨A9, c9, rfl⟩ := own_form hown9
            have bl9 := (HG4.out.blk.alloc (.cells #[.slice A6 dn.length c6] 28)).grown hgrow9 (fun e => HG4.out.rows.nb (upRow (us.map fun (r : ORow) => r.v) (.slice AV k cV)) (by simp) e.symm)
            have e9 := bl9.cell 5
            have z9 := bl9.free 5
            simp only [tabC] at e9
            have hG9 := HG4.out.app (i := 4) (r := upRow (us.map fun (r : ORow) => r.v) (.slice AV k cV)) rfl (.cells #[.slice A6 dn.length c6] 28) hgrow9 hown9 hat9 5
            have HG9 := Lib.hid hG9
            clear hown9 hgrow9 hnil9 hat9 bl9 hG9 hoV
            go_wp2
            have HFI2 := Lib.hid (show FindIs w (w9.setCell ⟨b, 5, none⟩ (.slice A9 (k + 1) c9)) b (.slice AP P.length cP) (.slice (some ⟨bT, oT, none⟩) T.length cT) P T (.slice A2 (leavesL P).length c2) (.slice A9 (k + 1) c9) (.slice A' (k + 1) c') vS' (.slice (some ⟨gM, 0, none⟩) (leavesL P).length cM) (us ++ [intRow (.slice A6 dn.length c6) dn]) (k + 1) from by
              have e : (⟨28, .slice A9 (k + 1) c9, k + 1, (us.map fun (r : ORow) => r.v) ++ [.slice A6 dn.length c6]⟩ : ORow) = upRow ((us ++ [intRow (.slice A6 dn.length c6) dn]).map fun (r : ORow) => r.v) (.slice A9 (k + 1) c9) := by
                unfold upRow
                simp [HUL.out, intRow]
              refine ⟨HG9.out.blk, ?_, by simp [HUL.out], fun i x r hT hU => ?_, HG9.out.bel⟩
              · rw [← e]
                exact HG9.out.rows
              · by_cases hik : i < k
                · rw [List.getElem?_append_left (by rw [HUL.out]; exact hik)] at hU
                  exact HF.out.up i x r hT hU
                · have hik2 : i = k := by
                    have h1 := (List.getElem?_eq_some_iff.1 hU).1
                    rw [List.length_append, List.length_singleton, HUL.out] at h1
                    omega
                  subst hik2
                  rw [last_get _ _ _ HUL.out.symm] at hU
                  injection hU with hU
                  rw [HX.out.1] at hT
                  injection hT with hT
                  rw [← hU, ← hT, ← HDN.out]; rfl)
            go_roundw
            case rel => exact ⟨k + 1, _, _, _, _, _, by go_num, by omega, HFI2.out⟩
            case measure => simp [intOf]; omega
    · obtain rfl : k = T.length := by omega
      go_wp2
      go_end0
      exact ⟨rfl, _, _, _, _, _, _, HF.out⟩
end Go.Proofs.YtagajjilccjplaaGreat
end
section
set_option linter.unusedVariables false
set_option linter.unusedSimpArgs false
/- path.found: the table, found. -/
namespace Go.Proofs.YtagajjilccjplaaGreat
open Go.RowKit

/-- a table of which all is found -/
structure TabF (w : World) (b : Nat) (P T : List Int) : Prop where
  ok : chkT P T = 0
  ex : ∃ AP cP AT cT vU vN vS vM us, Blk w b 129 (tabC (.slice AP P.length cP) (.slice AT T.length cT) 1 0 vU vN vS vM) ∧ RdL w (.slice AP P.length cP) 1 encI P ∧ RdL w (.slice AT T.length cT) 1 encI T ∧
    RdL w vN 1 encI (nodesTo P T T.length) ∧ RdL w vS 1 encI (slotsTo T T.length) ∧ RdL w vM 1 encI (matesTo P T T.length) ∧
    RdL w vU 1 (fun v => [v]) us ∧ us.length = T.length ∧ ∀ (i : Nat) (x : Int) (v : Value), T[i]? = some x → us[i]? = some v → RdL w v 1 encI (upL P x)
theorem TabF.below {w w' : World} {b : Nat} {P T : List Int} (h : TabF w b P T) (k : Below w.heap.size w w') : TabF w' b P T := by
  obtain ⟨AP, cP, AT, cT, vU, vN, vS, vM, us, h1, h2, h3, h4, h5, h6, h7, h8, h9⟩ := h.ex
  exact ⟨h.ok, AP, cP, AT, cT, vU, vN, vS, vM, us, h1.below k h1.lt, h2.below k (Nat.le_refl _), h3.below k (Nat.le_refl _), h4.below k (Nat.le_refl _), h5.below k (Nat.le_refl _), h6.below k (Nat.le_refl _), h7.below k (Nat.le_refl _), h8, fun i x v a c => (h9 i x v a c).below k (Nat.le_refl _)⟩
theorem found_again (w : World) (b : Nat) (P T : List Int) (h : TabF w b P T) :
    Calls Tryz.prog 64 #[.pointer (some ⟨b, 0, none⟩)] w fun e w' => e = .returned (.pointer (some ⟨b, 0, none⟩)) ∧ w = w' := by
  obtain ⟨AP, cP, AT, cT, vU, vN, vS, vM, us, hB, _⟩ := h.ex
  have c2 := hB.cell 2
  simp only [tabC] at c2
  have HD := Lib.hid (fun fv => do_done b 2 fv w c2)
  clear h hB c2
  go_enter Tryz.func64, Tryz.ntmps64
  go_wp2_with fail
  refine (HD.out _).mono ?_
  rintro en w' ⟨rfl, rfl⟩
  go_wp2
  go_ret
  exact ⟨rfl, rfl⟩
end Go.Proofs.YtagajjilccjplaaGreat
end
section
set_option linter.unusedVariables false
set_option linter.unusedSimpArgs false
/- path.Table's methods. -/
namespace Go.Proofs.YtagajjilccjplaaGreat
open Go.RowKit

/-- a table, found or not -/
def Tab (w : World) (b : Nat) (P T : List Int) : Prop := chkT P T = 0 ∧ (Tab0 w b P T ∨ TabF w b P T)
theorem TabF.tab {w : World} {b : Nat} {P T : List Int} (h : TabF w b P T) : Tab w b P T := ⟨h.ok, .inr h⟩
theorem Tab.lt {w : World} {b : Nat} {P T : List Int} (h : Tab w b P T) : b < w.heap.size := by
  rcases h.2 with ⟨_, _, _, _, h1, _⟩ | ⟨_, _, _, _, _, _, _, _, _, _, h1, _⟩ <;> exact h1.lt
theorem Tab.below {w w' : World} {b : Nat} {P T : List Int} (h : Tab w b P T) (k : Below w.heap.size w w') : Tab w' b P T := by
  refine ⟨h.1, ?_⟩
  rcases h.2 with h0 | h0
  · obtain ⟨AP, cP, AT, cT, h1, h2, h3, h4, h5⟩ := h0.ex
    exact .inl ⟨AP, cP, AT, cT, h1.below k h1.lt, h2.below k (Nat.le_refl _), h3.below k (Nat.le_refl _), h4, h5⟩
  · exact .inr (h0.below k)
/-- the threads' slice, found or not -/
theorem Tab.thr {w : World} {b : Nat} {P T : List Int} (h : Tab w b P T) : ∃ AT cT, w.cell? ⟨b, 1, none⟩ = some (.slice AT T.length cT) := by
  rcases h.2 with h0 | h0
  · obtain ⟨AP, cP, AT, cT, h1, _⟩ := h0.ex
    exact ⟨AT, cT, h1.cell 1⟩
  · obtain ⟨AP, cP, AT, cT, vU, vN, vS, vM, us, h1, _⟩ := h0.ex
    exact ⟨AT, cT, h1.cell 1⟩
theorem threads_any (w : World) (b : Nat) (P T : List Int) (h : Tab w b P T) :
    Calls Tryz.prog 91 #[.pointer (some ⟨b, 0, none⟩)] w fun e w' => e = .returned (.int .i64 (T.length : Nat)) ∧ w = w' := by
  obtain ⟨AT, cT, c1⟩ := h.thr
  clear h
  go_enter Tryz.func91, Tryz.ntmps91
  go_wp2
  go_ret
  exact ⟨rfl, rfl⟩
def hasB (T : List Int) (i : Int) : Bool := decide (0 ≤ i ∧ i < T.length)
theorem has_b (w : World) (b : Nat) (P T : List Int) (i : Int) (r : Bool) (hr : hasB T i = r) (h : Tab w b P T) :
    Calls Tryz.prog 63 #[.pointer (some ⟨b, 0, none⟩), .int .i64 i] w fun e w' => e = .returned (.bool r) ∧ w = w' := by
  have HT := Lib.hid (threads_any w b P T h)
  have HR := Lib.hid hr
  clear h hr
  go_enter Tryz.func63, Tryz.ntmps63
  by_cases h0 : 0 ≤ i
  · go_wp2_with fail
    refine HT.out.mono ?_
    rintro en w' ⟨rfl, rfl⟩
    go_wp2
    go_ret
    exact ⟨ret_bool (by rw [← HR.out]; simp [hasB, h0]), rfl⟩
  · go_wp2
    go_ret
    exact ⟨ret_bool (by rw [← HR.out]; unfold hasB; symm; exact decide_eq_false (by omega)), rfl⟩
end Go.Proofs.YtagajjilccjplaaGreat
end
section
set_option linter.unusedVariables false
set_option linter.unusedSimpArgs false
/- path.New, found, Nodes, Node again, with where the table's rows lie (written by wip/gen_pab.py). -/
namespace Go.Proofs.YtagajjilccjplaaGreat
open Go.RowKit

structure Tab0L (lo : Nat) (w : World) (b : Nat) (P T : List Int) : Prop where
  low : lo ≤ b
  ex : ∃ AP cP AT cT, Blk w b 129 #[.slice AP P.length cP, .slice AT T.length cT, .int .u32 0, .int .i32 0, .int .u32 0, .slice none 0 0, .slice none 0 0, .slice none 0 0, .slice none 0 0] ∧ RdL w (.slice AP P.length cP) 1 encI P ∧ RdL w (.slice AT T.length cT) 1 encI T ∧ (∀ g, (Value.slice AP P.length cP).ownBlock = some g → g ≠ b) ∧ (∀ g, (Value.slice AT T.length cT).ownBlock = some g → g ≠ b) ∧
    (∀ g, (Value.slice AP P.length cP).ownBlock = some g → lo ≤ g) ∧ (∀ g, (Value.slice AT T.length cT).ownBlock = some g → lo ≤ g)
set_option maxRecDepth 100000 in
set_option maxHeartbeats 4000000 in
theorem new_yesL (w : World) (vP vT : Value) (P T : List Int) (hP : RdL w vP 1 encI P) (hT : RdL w vT 1 encI T) (hc : chkT P T = 0) :
    Calls Tryz.prog 34 #[.agg #[vP, vT]] w fun e w' => ∃ b, e = .returned (.tuple #[.pointer (some ⟨b, 0, none⟩), .int .i64 0]) ∧ w.heap.size ≤ b ∧ Tab0L w.heap.size w' b P T ∧ Below w.heap.size w w' := by
  have HC := check_any (w.alloc (.cells #[vP, vT] 30)) vP vT P T (hP.alloc _) (hT.alloc _)
  rw [hc] at HC
  have HCC := Lib.hid HC
  have HB0 := Lib.hid ((Below.refl w.heap.size w).alloc (Nat.le_refl _) (.cells #[vP, vT] 30))
  have HPT := Lib.hid (And.intro hP hT)
  have hml := many_lt (chk_ok hc).1
  obtain ⟨AP, cP, rfl, lP1, lP2⟩ := rdl_form hP
  obtain ⟨AT, cT, rfl, lT1, lT2⟩ := rdl_form hT
  have HX := Lib.hid (show (w.alloc (.cells #[.slice AP P.length cP, .slice AT T.length cT] 30)).cell? ⟨w.heap.size, 0, none⟩ = some (.slice AP P.length cP) ∧ (w.alloc (.cells #[.slice AP P.length cP, .slice AT T.length cT] 30)).cell? ⟨w.heap.size, 1, none⟩ = some (.slice AT T.length cT) by simp [World.cell?_alloc_new])
  have hbx : w.heap.size < (w.alloc (.cells #[.slice AP P.length cP, .slice AT T.length cT] 30)).heap.size := by simp
  clear hP hT hc HC
  go_enter Tryz.func34, Tryz.ntmps34
  go_wp2_with fail
  refine HCC.out.mono ?_
  rintro en w1 ⟨rfl, b1⟩
  have f0 := (b1.cell (p := ⟨w.heap.size, 0, none⟩) hbx).trans HX.out.1
  have f1 := (b1.cell (p := ⟨w.heap.size, 1, none⟩) hbx).trans HX.out.2
  have hs1 := b1.size
  simp at hs1
  have HB1 := Lib.hid (HB0.out.trans (b1.mono HB0.out.size))
  have HP1 := Lib.hid (fun W (h : Below w1.heap.size w1 W) => And.intro (HPT.out.1.below (HB1.out.trans (h.mono HB1.out.size)) (Nat.le_refl _)) (HPT.out.2.below (HB1.out.trans (h.mono HB1.out.size)) (Nat.le_refl _)))
  have bd : Below w1.heap.size w1 w1.drew := (Below.refl _ _).drew
  clear b1
  go_wp2_with fail
  go_region_held3 (fun W => W.cell? ⟨w.heap.size, 0, none⟩ = some (.slice AP P.length cP) ∧ W.cell? ⟨w.heap.size, 1, none⟩ = some (.slice AT T.length cT))
    (first | exact ⟨f0, f1⟩ | exact ⟨(k3.cell (p := ⟨w.heap.size, 0, none⟩) (show w.heap.size < w1.heap.size by omega)).trans f0, (k3.cell (p := ⟨w.heap.size, 1, none⟩) (show w.heap.size < w1.heap.size by omega)).trans f1⟩ | exact ⟨(k2.cell (p := ⟨w.heap.size, 0, none⟩) (show w.heap.size < w1.heap.size by omega)).trans f0, (k2.cell (p := ⟨w.heap.size, 1, none⟩) (show w.heap.size < w1.heap.size by omega)).trans f1⟩ | exact ⟨((k3.alloc k3.size _).cell (p := ⟨w.heap.size, 0, none⟩) (show w.heap.size < w1.heap.size by omega)).trans f0, ((k3.alloc k3.size _).cell (p := ⟨w.heap.size, 1, none⟩) (show w.heap.size < w1.heap.size by omega)).trans f1⟩)
    (first
      | (go_at_call 59; with_reducible refine (clone_any _ _ P (HP1.out _ bd).1 (by omega)).mono ?_; rintro e w2 ⟨v2, rfl, o2, b2⟩; obtain ⟨A2, c2, rfl⟩ := own_form o2; (have k2 : Below w1.heap.size w1 w2 := bd.trans (b2.mono (by simp))); have O2 := Lib.hid o2; clear o2)
      | (go_at_call 59; with_reducible refine (clone_any _ _ T (HP1.out _ k2).2 (by omega)).mono ?_; rintro e w3 ⟨v3, rfl, o3, b3⟩; obtain ⟨A3, c3, rfl⟩ := own_form o3; (have k3 : Below w1.heap.size w1 w3 := k2.trans (b3.mono k2.size)); have O3 := Lib.hid o3; clear o3))
  all_goals
    have hs3 := k3.size
    have e2 : ∀ g, (Value.slice A2 P.length c2).ownBlock = some g → g ≠ w3.heap.size := fun g hg => by have := (O2.out.lt g hg).2; have := b3.size; omega
    have e3 : ∀ g, (Value.slice A3 T.length c3).ownBlock = some g → g ≠ w3.heap.size := fun g hg => by have := (O3.out.lt g hg).2; omega
    have HT0 := Lib.hid (show Tab0L w.heap.size (w3.alloc (.cells #[.slice A2 P.length c2, .slice A3 T.length c3, .int .u32 0, .int .i32 0, .int .u32 0, .slice none 0 0, .slice none 0 0, .slice none 0 0, .slice none 0 0] 129)) w3.heap.size P T from
      ⟨Nat.le_trans HB1.out.size hs3, A2, c2, A3, c3, Blk.new _ _ _, (own_rdl (own_below O2.out b3) (by omega)).alloc _, (own_rdl O3.out (by omega)).alloc _, e2, e3, fun g hg => by have h1 : w1.heap.size ≤ g := (O2.out.lt g hg).1; have := HB1.out.size; omega, fun g hg => by have h1 : w2.heap.size ≤ g := (O3.out.lt g hg).1; have := HB1.out.size; have := k2.size; omega⟩)
    have HBE := Lib.hid ((HB1.out.trans (k3.mono HB1.out.size)).alloc (Nat.le_trans HB1.out.size hs3) (.cells #[.slice A2 P.length c2, .slice A3 T.length c3, .int .u32 0, .int .i32 0, .int .u32 0, .slice none 0 0, .slice none 0 0, .slice none 0 0, .slice none 0 0] 129))
    go_wp2
    go_ret2
    exact ⟨_, rfl, Nat.le_trans HB1.out.size hs3, HT0.out, HBE.out⟩
theorem nodeF (w : World) (b : Nat) (P T : List Int) (i : Nat) (hi : i < T.length) (h : TabF w b P T) (x : Int) (hx : (nodesTo P T T.length)[i]? = some x) :
    Calls Tryz.prog 38 #[.pointer (some ⟨b, 0, none⟩), .int .i64 i] w fun e w' => e = .returned (.int .i64 x) ∧ w = w' := by
  have HF := Lib.hid (found_again w b P T h)
  have HH := Lib.hid (has_b w b P T i true (decide_eq_true (by omega)) h.tab)
  have HX := Lib.hid hx
  have HTF := Lib.hid h
  clear h hx
  go_enter Tryz.func38, Tryz.ntmps38
  go_wp2_with fail
  refine HH.out.mono ?_
  rintro en w' ⟨rfl, rfl⟩
  go_wp2_with fail
  refine HF.out.mono ?_
  rintro en w' ⟨rfl, rfl⟩
  have hF := HTF.out
  obtain ⟨AP, cP, AT, cT, vU, vN, vS, vM, us, h1, h2, h3, h4, h5, h6, h7, h8, h9⟩ := hF.ex
  have hl : (nodesTo P T T.length).length = T.length := nodesTo_len (Nat.le_refl _)
  obtain ⟨AM, cM, rfl, _, _⟩ := rdl_form h4
  obtain ⟨b1, o1, hA, _, hc1⟩ := rdl_int h4 (by omega)
  subst hA
  have q1 := hc1 i x HX.out
  have c8 := h1.cell 6
  rw [hl] at *
  simp only [tabC] at c8
  clear hF h1 h2 h3 h4 h5 h6 h7 h8 h9 hc1 hl
  go_wp2
  go_ret
  exact ⟨rfl, rfl⟩
end Go.Proofs.YtagajjilccjplaaGreat
end
