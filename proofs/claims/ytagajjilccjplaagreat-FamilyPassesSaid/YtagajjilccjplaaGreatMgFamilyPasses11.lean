/- Joined: Co7, Co8, Co9. -/
import Derived.Test.YtagajjilccjplaaGreatMgFamilyPasses9
import Derived.Test.YtagajjilccjplaaGreatMgFamilyPasses10
section
set_option linter.unusedVariables false
set_option linter.unusedSimpArgs false
/- Layer 24 (cohort): a new lock, exactly: what it is, and its memory while it is made. -/
namespace Go.Proofs.YtagajjilccjplaaGreat
open Go.RowKit

def mtQ (P T : List Int) (n : Nat) : Nat := max 1 (T.count ((leavesL P).getD n 0))
/-- the arena when the first k nodes have their locks -/
def coNewS (kl par : Nat) (f : Nat → Nat) (s : Ar) : Nat → Ar
  | 0 => s
  | k + 1 => takeS (newAr_ kl (coNewS kl par f s k) (f k) par) 1
/-- a node's count's word -/
def cwN (kl par : Nat) (f : Nat → Nat) (s : Ar) (n : Nat) : Nat := (newAr_ kl (coNewS kl par f s n) (f n) par).W.length + 1
def coNewL (kl : Nat) (f : Nat → Nat) (N : Nat) : List (List Sp) := (List.range N).map fun n => newSpK kl (f n)
theorem storeA_len (s : Ar) (x v : Int) : (storeA s x v).W.length = s.W.length := by rw [storeA_W, stW_len]
theorem storeA_room (s : Ar) (x v : Int) : (storeA s x v).room = s.room := by unfold storeA wrA noteA; split <;> rfl
theorem takeS_len (s : Ar) (n : Nat) : (takeS s n).W.length = s.W.length + n := by unfold takeS; simp
theorem newAr_len (k : Nat) (s : Ar) (n m : Nat) : (newAr_ k s n m).W.length = s.W.length + szK k n m := by
  unfold newAr_
  split
  · rw [storeA_len, takeS_len]
  split
  · rw [storeA_len, takeS_len]
  · rw [takeS_len]
theorem newAr_room (k : Nat) (s : Ar) (n m : Nat) : (newAr_ k s n m).room = s.room := by
  unfold newAr_
  split
  · rw [storeA_room]; rfl
  split
  · rw [storeA_room]; rfl
  · rfl
theorem szK_le {k n m : Nat} (hn : n ≤ 32) (hm : m ≤ 4) : szK k n m ≤ 65 := by
  unfold szK
  split
  · omega
  split
  · omega
  split
  · omega
  split <;> omega
theorem newSpK_len (k n : Nat) : (newSpK k n).length = n := by
  unfold newSpK
  split <;> simp
theorem ops_storeA (s : Ar) (x v : Int) : (storeA s x v).ops ≤ s.ops + 1 := storeA_ops _ _ _
theorem ops_newAr (k : Nat) (s : Ar) (n m : Nat) : (newAr_ k s n m).ops ≤ s.ops + 1 := by
  unfold newAr_
  split
  · exact ops_storeA _ _ _
  split
  · exact ops_storeA _ _ _
  · show s.ops ≤ _; omega
theorem ops_coNewS (kl par : Nat) (f : Nat → Nat) (s : Ar) (k : Nat) : (coNewS kl par f s k).ops ≤ s.ops + k := by
  induction k with
  | zero => exact Nat.le_refl _
  | succ k ih =>
    have := ops_newAr kl (coNewS kl par f s k) (f k) par
    show (newAr_ _ _ _ _).ops ≤ _
    omega
section
variable {kl par : Nat} {f : Nat → Nat} {s : Ar}
theorem coNewS_room (k : Nat) : (coNewS kl par f s k).room = s.room := by
  induction k with
  | zero => rfl
  | succ k ih => show (newAr_ _ _ _ _).room = _; rw [newAr_room, ih]
theorem coNewS_len (hf : ∀ n, f n ≤ 32) (hp : par ≤ 4) (k : Nat) : (coNewS kl par f s k).W.length ≤ s.W.length + 66 * k := by
  induction k with
  | zero => exact Nat.le_refl _
  | succ k ih =>
    show (takeS (newAr_ _ _ _ _) 1).W.length ≤ _
    rw [takeS_len, newAr_len]
    have := szK_le (k := kl) (hf k) hp
    omega
theorem mtQ_le {P T : List Int} (hT : T.length ≤ 32) (n : Nat) : 1 ≤ mtQ P T n ∧ mtQ P T n ≤ 32 := by
  have : T.count ((leavesL P).getD n 0) ≤ T.length := List.count_le_length
  unfold mtQ
  omega
end
/-- a new lock's own -/
def coCN (kg kl par : Nat) (bud : Int) (P T : List Int) (s : Ar) : CoC :=
  ⟨kg, kl, (s.W.length + 1 : Nat), (par : Int), bud, nodeQ P T, fun i => (slotOf T i).toNat, fun n => ((coNewS kl par (mtQ P T) (newAr_ kg s (leavesL P).length par) n).W.length + 1 : Nat), fun n => (cwN kl par (mtQ P T) (newAr_ kg s (leavesL P).length par) n : Nat)⟩
def coStN (kg kl par : Nat) (P T : List Int) (s : Ar) : Co :=
  ⟨coNewS kl par (mtQ P T) (newAr_ kg s (leavesL P).length par) (leavesL P).length, newSpK kg (leavesL P).length, coNewL kl (mtQ P T) (leavesL P).length, List.replicate T.length Sp.zero⟩
theorem blk_ne {w : World} {i j : Nat} {t u : TypeId} {cs ds : Array Value} (h : Blk w i t cs) (k : Blk w j u ds) (hn : t ≠ u) : i ≠ j := by
  rintro rfl
  have e := h.symm.trans k
  simp only [Option.some.injEq, Obj.cells.injEq] at e
  exact hn e.2.1
/-- two kinds of block that are no part of a flat lock -/
def Cn (t : TypeId) : Prop := t = 216 ∨ t = 219
theorem lkT_cn (k : Nat) {t : TypeId} (h : Cn t) : t ≠ lkT k := by
  unfold lkT
  rcases h with rfl | rfl <;> split <;> decide
theorem FlIs.away {w : World} {a g k : Nat} {x : Fx} {s : Ar} {S : List Sp} (h : FlIs w a g k x s S) {i : Nat} {t : TypeId} {cs : Array Value} (hb : Blk w i t cs) (ht : Cn t) : i ≠ x.p ∧ i ≠ x.l ∧ i ≠ x.q := by
  obtain ⟨Z, z⟩ := h.ki.sp
  refine ⟨blk_ne hb h.p ?_, blk_ne hb h.ki.lk (lkT_cn k ht), blk_ne hb z ?_⟩
  · rcases ht with rfl | rfl <;> decide
  · rcases ht with rfl | rfl <;> decide
/-- while the nodes' locks are made -/
structure NwQ (w : World) (a g lo : Nat) (o0 : Nat → Nat) (kg kl par N : Nat) (f : Nat → Nat) (s7 : Ar) (xg : Fx) (k : Nat) (X : List Fx) (V : List Nat) (o : Nat → Nat) : Prop where
  ar : ArIs w a g (coNewS kl par f s7 k)
  gl : FlIs w a g kg xg (coNewS kl par f s7 k) (newSpK kg N)
  ls : ∀ (n : Nat) (y : Fx), X[n]? = some y → FlIs w a g kl y (coNewS kl par f s7 k) (newSpK kl (f n)) ∧ y.t = (coNewS kl par f s7 n).W.length + 1 ∧ y.m = par ∧ (o y.p = 5 + n ∧ o y.l = 5 + n ∧ o y.q = 5 + n) ∧ lo ≤ y.p ∧ lo ≤ y.l ∧ lo ≤ y.q
  v : ∀ n v, V[n]? = some v → v = cwN kl par f s7 n
  lX : X.length = k
  lV : V.length = k
  oo : ∀ i, i < lo → o i = o0 i
section
variable {w1 w2 w3 w4 : World} {a g lo : Nat} {o0 o : Nat → Nat} {kg kl par N : Nat} {f : Nat → Nat} {s7 : Ar} {xg : Fx} {k : Nat} {X : List Fx} {V : List Nat}
/-- a flat lock beside which another is made -/
theorem FlIs.beside {k : Nat} {x : Fx} {s s' : Ar} {S : List Sp} (h : FlIs w1 a g k x s S) (t2 : Turns [a, g] w1 w3) (hA : ArIs w3 a g s') {q : List Nat} (t3 : Turns q w3 w4) (ha : a ∉ q) (hg : g ∉ q) (hq : ∀ i ∈ q, ∃ t cs, Blk w3 i t cs ∧ Cn t) : FlIs w4 a g k x s' S := by
  have h2 : FlIs w3 a g k x s' S := h.oth t2 hA (by simp [h.pa, h.pg]) (by simp [h.ki.la, h.ki.lg]) (by simp [h.ki.qa, h.ki.qg])
  refine h2.turns t3 ?_ ?_ ha hg ?_
  all_goals
    intro hm
    obtain ⟨t, cs, hb, ht⟩ := hq _ hm
    have := h2.away hb ht
    omega
theorem NwQ.step (h : NwQ w1 a g lo o0 kg kl par N f s7 xg k X V o) (hlo : lo ≤ w1.heap.size) {y : Fx} (hy : FlIs w2 a g kl y (newAr_ kl (coNewS kl par f s7 k) (f k) par) (newSpK kl (f k)))
    (t1 : Turns [a, g] w1 w2) (hf : w1.heap.size ≤ y.p ∧ w1.heap.size ≤ y.l ∧ w1.heap.size ≤ y.q) (ht : y.t = (coNewS kl par f s7 k).W.length + 1) (hm : y.m = par)
    (t2 : Turns [a] w2 w3) (hA : ArIs w3 a g (takeS (newAr_ kl (coNewS kl par f s7 k) (f k) par) 1)) {q : List Nat} (t3 : Turns q w3 w4) (ha : a ∉ q) (hg : g ∉ q) (hq : ∀ i ∈ q, ∃ t cs, Blk w3 i t cs ∧ Cn t) :
    NwQ w4 a g lo o0 kg kl par N f s7 xg (k + 1) (X ++ [y]) (V ++ [cwN kl par f s7 k]) (fun i => if w1.heap.size ≤ i then 5 + k else o i) := by
  have t2' : Turns [a, g] w2 w3 := t2.mono (by simp)
  have t12 := t1.trans t2'
  refine ⟨hA.turns t3 ha hg, h.gl.beside t12 hA t3 ha hg hq, ?_, ?_, by simp [h.lX], by simp [h.lV], fun i hi => by rw [if_neg (by omega)]; exact h.oo i hi⟩
  · intro n z hz
    by_cases hn : n < k
    · rw [List.getElem?_append_left (by rw [h.lX]; exact hn)] at hz
      obtain ⟨e1, e2, e3, e4, e5⟩ := h.ls n z hz
      have l1 := e1.p.lt
      have l2 := e1.ki.lk.lt
      have l3 := e1.ki.sp.lt
      exact ⟨e1.beside t12 hA t3 ha hg hq, e2, e3, ⟨by rw [if_neg (by omega)]; exact e4.1, by rw [if_neg (by omega)]; exact e4.2.1, by rw [if_neg (by omega)]; exact e4.2.2⟩, e5⟩
    · have hlt := (List.getElem?_eq_some_iff.1 hz).1
      simp only [List.length_append, List.length_cons, List.length_nil, h.lX] at hlt
      obtain rfl : n = k := by omega
      rw [List.getElem?_append_right (by rw [h.lX]; omega), h.lX] at hz
      simp only [Nat.sub_self, List.getElem?_cons_zero, Option.some.injEq] at hz
      subst hz
      exact ⟨hy.beside t2' hA t3 ha hg hq, ht, hm, ⟨by rw [if_pos hf.1], by rw [if_pos hf.2.1], by rw [if_pos hf.2.2]⟩, by omega, by omega, by omega⟩
  · intro n v hv
    by_cases hn : n < k
    · rw [List.getElem?_append_left (by rw [h.lV]; exact hn)] at hv
      exact h.v n v hv
    · have hlt := (List.getElem?_eq_some_iff.1 hv).1
      simp only [List.length_append, List.length_cons, List.length_nil, h.lV] at hlt
      obtain rfl : n = k := by omega
      rw [List.getElem?_append_right (by rw [h.lV]; omega), h.lV] at hv
      simp only [Nat.sub_self, List.getElem?_cons_zero, Option.some.injEq] at hv
      exact hv.symm
theorem NwQ.start (hA : ArIs w1 a g s7) (hgl : FlIs w1 a g kg xg s7 (newSpK kg N)) : NwQ w1 a g lo o0 kg kl par N f s7 xg 0 [] [] o0 :=
  ⟨hA, hgl, by intro n y hy; simp at hy, by intro n v hv; simp at hv, rfl, rfl, fun _ _ => rfl⟩
end
theorem zip_snoc (X : List Fx) (V : List Nat) (y : Fx) (v : Nat) (h : X.length = V.length) : ((X ++ [y]).zip (V ++ [v])).flatMap ndE = (X.zip V).flatMap ndE ++ [.pointer (some ⟨y.p, 0, none⟩), .int .i64 v] := by
  rw [List.zip_append h]
  simp [List.flatMap_append, ndE]
/-- the slot of a thread is one of its node's -/
theorem slot_lt {P T : List Int} (hc : chkT P T = 0) {i : Nat} (hi : i < T.length) : nodeQ P T i < (leavesL P).length ∧ (leavesL P).getD (nodeQ P T i) 0 = T.getD i 0 ∧ 0 ≤ slotOf T i ∧ (slotOf T i).toNat < mtQ P T (nodeQ P T i) := by
  obtain ⟨y, hy⟩ := getElem?_lt hi
  have hm := thr_mem (chk_ok hc).2.2.2 hy
  obtain ⟨k, hk⟩ := Int.eq_ofNat_of_zero_le ((idx_nonneg (leavesL P) y).1.2 hm)
  have hg := idx_get hm hk
  have e : nodeQ P T i = k := by
    unfold nodeQ
    rw [getD_of hy, hk]; rfl
  rw [e, getD_of hg, getD_of hy]
  refine ⟨(List.getElem?_eq_some_iff.1 hg).1, rfl, by unfold slotOf; omega, ?_⟩
  unfold slotOf mtQ
  rw [getD_of hy, getD_of hg, Int.toNat_natCast]
  have e2 : T = T.take i ++ T.drop i := (List.take_append_drop i T).symm
  have e3 : T.drop i = y :: T.drop (i + 1) := by
    rw [List.drop_eq_getElem_cons hi]
    congr 1
    have := List.getElem?_eq_getElem hi
    rw [hy] at this
    injection this with this
    exact this.symm
  have : T.count y = (T.take i).count y + 1 + (T.drop (i + 1)).count y := by
    conv => lhs; rw [e2, List.count_append, e3, List.count_cons_self]
    omega
  omega
/-- all that a lock's memory is, but its labels' default -/
theorem co_made {B : Nat → Prop} {w : World} {a g l b qs lo : Nat} {o0 o : Nat → Nat} {kg kl par : Nat} {bud : Int} {P T : List Int} {s : Ar} {xg : Fx} {X : List Fx} {V : List Nat} {v : Value}
    (h : NwQ w a g lo o0 kg kl par (leavesL P).length (mtQ P T) (newAr_ kg s (leavesL P).length par) xg (leavesL P).length X V o)
    (hc : chkT P T = 0) (hkg : KOk kg) (hkl : KOk kl) (hp : 1 ≤ par ∧ par ≤ 4) (hb : 0 ≤ bud ∧ bud ≤ 1000) (hN : 1 ≤ (leavesL P).length)
    (hl : Blk w l 216 (coC a b (kg : Int) (kl : Int) par bud (.pointer (some ⟨xg.p, 0, none⟩)) v (.slice (some ⟨qs, 0, none⟩) T.length T.length)))
    (hv : w.ownsRow lo 219 2 v (leavesL P).length ((X.zip V).flatMap ndE)) (htab : TabQ B w b P T) (hsp : SpR w qs (List.replicate T.length Sp.zero))
    (ht : xg.t = s.W.length + 1) (hm : xg.m = par) (hlen : s.W.length ≤ 100)
    (o1 : o0 l = 1) (o2 : o0 qs = 2) (o3 : o0 a = 3 ∧ o0 g = 3) (o4 : o0 xg.p = 4 ∧ o0 xg.l = 4 ∧ o0 xg.q = 4) (oB : ∀ i, B i → o0 i = 0)
    (ll : l < lo) (lq : qs < lo) (la : a < lo) (lg : g < lo) (lG : xg.p < lo ∧ xg.l < lo ∧ xg.q < lo) (lB : ∀ i, B i → i < lo) :
    ∃ x : Cox, x.l = l ∧ x.qs = qs ∧ x.g = xg ∧ x.X = X ∧ lo ≤ x.qn ∧ CoIs B w a g x (coCN kg kl par bud P T s) P T (coStN kg kl par P T s) := by
  obtain ⟨qn, cap, rfl, hcap, hq, Z, hZ⟩ := own_blkZ hv hN
  have hml := many_lt (chk_ok hc).1
  have hT32 : T.length ≤ 32 := hml.2.2.2
  have hN32 : (leavesL P).length ≤ 32 := by
    have := leavesTo_len P P.length
    show (leavesTo P P.length).length ≤ 32; omega
  have hbn : ∀ i, i < lo → (if i = qn then 1 else o i) = o0 i := fun i hi => by rw [if_neg (by omega)]; exact h.oo i hi
  refine ⟨⟨l, b, qn, qs, T.length, (leavesL P).length, cap, par, xg, X, V, fun i => if i = qn then 1 else o i⟩, rfl, rfl, rfl, rfl, hq, ?_⟩
  refine { fx := ?_, ar := h.ar, lk := hl, tb := htab, nd := ⟨Z, hZ⟩, sp := hsp, gl := h.gl, lo := ?_, lL := ?_, lG := newSpK_len _ _, lS := by simp [coStN], sl := ?_ }
  · refine { ck := hc, nT := rfl, nN := rfl, lX := h.lX, lW := h.lV, cap := hcap, cn := ?_, tg := ?_, tl := ?_, gm := by show (xg.m : Int) = (par : Int); rw [hm], pm := rfl, cc := ?_, kg := hkg, kl := hkl, bud := hb, par := hp, ol := ?_, on := by simp, os := ?_, oa := ?_, og := ?_, oG := ?_, oL := ?_, oB := ?_ }
    · intro i hi
      refine ⟨rfl, ?_⟩
      have := (slot_lt hc hi).2.2.1
      show (((slotOf T i).toNat : Nat) : Int) = _
      omega
    · show ((s.W.length + 1 : Nat) : Int) = _
      rw [ht]
    · intro n y hy
      obtain ⟨_, e2, e3, _⟩ := h.ls n y hy
      refine ⟨?_, by show (y.m : Int) = (par : Int); rw [e3]⟩
      show (((coNewS _ _ _ _ n).W.length + 1 : Nat) : Int) = _
      rw [e2]
    · intro n v hv
      have hn : n < (leavesL P).length := by have := (List.getElem?_eq_some_iff.1 hv).1; rw [h.lV] at this; exact this
      have e := h.v n v hv
      refine ⟨by show ((cwN _ _ _ _ n : Nat) : Int) = _; rw [e], ?_⟩
      rw [e]
      unfold cwN
      rw [newAr_len]
      have h1 := coNewS_len (kl := kl) (par := par) (f := mtQ P T) (s := newAr_ kg s (leavesL P).length par) (fun n => (mtQ_le hT32 n).2) hp.2 n
      rw [newAr_len] at h1
      have h2 := szK_le (k := kg) hN32 hp.2
      have h3 := szK_le (k := kl) (mtQ_le (P := P) hT32 n).2 hp.2
      omega
    · show (if _ then 1 else _) = 1; rw [hbn _ ll, o1]
    · show (if _ then 1 else _) = 2; rw [hbn _ lq, o2]
    · show (if _ then 1 else _) = 3; rw [hbn _ la, o3.1]
    · show (if _ then 1 else _) = 3; rw [hbn _ lg, o3.2]
    · refine ⟨?_, ?_, ?_⟩
      · show (if _ then 1 else _) = 4; rw [hbn _ lG.1, o4.1]
      · show (if _ then 1 else _) = 4; rw [hbn _ lG.2.1, o4.2.1]
      · show (if _ then 1 else _) = 4; rw [hbn _ lG.2.2, o4.2.2]
    · intro n y hy
      obtain ⟨e1, _, _, e4, _⟩ := h.ls n y hy
      have := e1.away hZ (.inr rfl)
      refine ⟨?_, ?_, ?_⟩
      · show (if _ then 1 else _) = _; rw [if_neg (by omega)]; exact e4.1
      · show (if _ then 1 else _) = _; rw [if_neg (by omega)]; exact e4.2.1
      · show (if _ then 1 else _) = _; rw [if_neg (by omega)]; exact e4.2.2
    · intro i hi
      show (if _ then 1 else _) = 0; rw [hbn _ (lB i hi), oB i hi]
  · intro n y S hy hS
    have e := (h.ls n y hy).1
    have hn : n < (leavesL P).length := by have := (List.getElem?_eq_some_iff.1 hy).1; rw [h.lX] at this; exact this
    have : S = newSpK kl (mtQ P T n) := by
      simp only [coStN, coNewL, List.getElem?_map, List.getElem?_range hn, Option.map_some, Option.some.injEq] at hS
      exact hS.symm
    rw [this]
    exact e
  · show (coNewL _ _ _).length = _
    simp [coNewL]
  · intro i S hi hS
    obtain ⟨h1, _, h3, h4⟩ := slot_lt hc (show i < T.length from hi)
    have : S = newSpK kl (mtQ P T (nodeQ P T i)) := by
      have hS' : (coNewL kl (mtQ P T) (leavesL P).length)[nodeQ P T i]? = some S := hS
      simp only [coNewL, List.getElem?_map, List.getElem?_range h1, Option.map_some, Option.some.injEq] at hS'
      exact hS'.symm
    rw [this, newSpK_len]
    exact h4
end Go.Proofs.YtagajjilccjplaaGreat
end
section
set_option linter.unusedVariables false
set_option linter.unusedSimpArgs false
/- Layer 24 (cohort): New, exactly. (printed by gen_co8.py out of XQu3) -/
namespace Go.Proofs.YtagajjilccjplaaGreat
open Go.RowKit

/-- the blocks of a lock -/
def CoBlk (x : Cox) (B : Nat → Prop) (i : Nat) : Prop := i = x.l ∨ i = x.qn ∨ i = x.qs ∨ (i = x.g.p ∨ i = x.g.l ∨ i = x.g.q) ∨ (∃ y ∈ x.X, i = y.p ∨ i = y.l ∨ i = y.q) ∨ B i
def NewCo (w : World) (a g : Nat) (s : Ar) (kg kl par : Nat) (bud : Int) (P T : List Int) (e : Ending) (w' : World) : Prop :=
  ∃ (x : Cox) (B : Nat → Prop), e = .returned (.tuple #[.pointer (some ⟨x.l, 0, none⟩), .int .i64 0]) ∧ CoIs B w' a g x (coCN kg kl par bud P T s) P T (coStN kg kl par P T s) ∧ (∀ i, CoBlk x B i → w.heap.size ≤ i ∧ i < w'.heap.size) ∧ Turns [a, g] w w'
theorem rfl' {l l' : Nat} (h : l' = l) : Ending.returned (.tuple #[.pointer (some ⟨l, 0, none⟩), .int .i64 0]) = .returned (.tuple #[.pointer (some ⟨l', 0, none⟩), .int .i64 0]) := by rw [h]
set_option maxRecDepth 100000 in
set_option maxHeartbeats 8000000 in
theorem cohortNewX {w : World} {a g : Nat} {s : Ar} (h : ArIs w a g s) (vP vT : Value) (P T : List Int) (hP : RdL w vP 1 encI P) (hT : RdL w vT 1 encI T) (hc : chkT P T = 0) (kg kl : Nat) (hkg : KOk kg) (hkl : KOk kl) (par : Nat) (hp : 1 ≤ par ∧ par ≤ 4) (bud : Int) (hb : 0 ≤ bud ∧ bud ≤ 1000) (hr : s.W.length + 2500 ≤ s.room) (hs100 : s.W.length ≤ 100) (ho : s.ops + 100 ≤ 1000000000000) :
    Calls Tryz.prog 84 #[.pointer (some ⟨a, 0, none⟩), .agg #[vP, vT], .agg #[.int .i64 (kg : Int), .int .i64 (kl : Int), .int .i64 par, .int .i64 bud]] w (NewCo w a g s kg kl par bud P T) := by
  obtain ⟨i0, hi, hz0, hz1, hz2⟩ := info_parts Tryz.infoSpF
  obtain ⟨j0, hj, hy0, hy1, hy2⟩ := info_parts Tryz.infoNd
  have HJ := Lib.hid (And.intro hj (And.intro hy0 (And.intro hy1 hy2)))
  clear hj hy0 hy1 hy2
  have hml := many_lt (chk_ok hc).1
  have ha0 := h.blk.lt
  have hg0 := h.wds.lt
  obtain ⟨hT1, hT32⟩ : 1 ≤ T.length ∧ T.length ≤ 32 := ⟨hml.2.2.1, hml.2.2.2⟩
  have hN32 : (leavesL P).length ≤ 32 := by
    have := leavesTo_len P P.length
    show (leavesTo P P.length).length ≤ 32; omega
  have hN1 : 1 ≤ (leavesL P).length := by
    obtain ⟨x, hx⟩ := getElem?_lt (show 0 < T.length by omega)
    exact List.length_pos_of_mem (thr_mem (chk_ok hc).2.2.2 hx)
  have HPD := Lib.hid (And.intro hkg (And.intro hkl (And.intro hp hb)))
  have H := Lib.hid (And.intro h (And.intro ha0 hg0))
  have HN := Lib.hid (new_yesL ((w.alloc (.cells #[vP, vT] 30)).alloc (.cells #[.int .i64 (kg : Int), .int .i64 (kl : Int), .int .i64 par, .int .i64 bud] 32)) vP vT P T ((hP.alloc _).alloc _) ((hT.alloc _).alloc _) hc)
  have HCK := Lib.hid hc
  have HS := Lib.hid (And.intro hr (And.intro hs100 ho))
  have HR := Lib.hid (fun W => rightB bud W hb.1 (by omega))
  have hlo : ((w.alloc (.cells #[vP, vT] 30)).alloc (.cells #[.int .i64 (kg : Int), .int .i64 (kl : Int), .int .i64 par, .int .i64 bud] 32)).heap.size = w.heap.size + 2 := by simp
  have B0 := Lib.hid (((Below.refl w.heap.size w).alloc (Nat.le_refl _) (.cells #[vP, vT] 30)).alloc (by simp) (.cells #[.int .i64 (kg : Int), .int .i64 (kl : Int), .int .i64 par, .int .i64 bud] 32))
  have hbx := Blk.new (w.alloc (.cells #[vP, vT] 30)) 32 #[.int .i64 (kg : Int), .int .i64 (kl : Int), .int .i64 par, .int .i64 bud]
  rw [show (w.alloc (.cells #[vP, vT] 30)).heap.size = w.heap.size + 1 by simp] at hbx
  have BX := Lib.hid hbx
  clear h hP hT hr hs100 ho hml ha0 hg0 hc hbx hkg hkl hp hb
  go_enter Tryz.func84, Tryz.ntmps84
  go_wp2_with fail
  refine HN.out.mono ?_
  rintro en w1 ⟨b, rfl, hb, t1, b1⟩
  rw [hlo] at hb t1 b1
  have K1 := Lib.hid (And.intro (t1.q HCK.out) (And.intro (B0.out.trans (b1.mono (by omega))) (And.intro (Turns.blk (S := []) ⟨b1.os, b1.tape, b1.output, b1.size, fun i hi _ => b1.block i (by omega)⟩ BX.out (by simp)) hb)))
  clear t1 b1 hb HN BX B0
  have p3 : w1.cell? ⟨w.heap.size + 1, 3, none⟩ = some (.int .i64 bud) := K1.out.2.2.1.cell 3
  go_wp2_with fail
  refine (HR.out _).mono ?_
  rintro en w1' ⟨rfl, rfl⟩
  have p0 : w1.cell? ⟨w.heap.size + 1, 0, none⟩ = some (.int .i64 (kg : Int)) := K1.out.2.2.1.cell 0
  have p1 : w1.cell? ⟨w.heap.size + 1, 1, none⟩ = some (.int .i64 (kl : Int)) := K1.out.2.2.1.cell 1
  have p2 : w1.cell? ⟨w.heap.size + 1, 2, none⟩ = some (.int .i64 par) := K1.out.2.2.1.cell 2
  have hpl : w.heap.size + 1 < w1.heap.size := K1.out.2.2.1.lt
  have HTh := Lib.hid (threads_any w1.drew b P T ((K1.out.1.turns ((Turns.refl (S := []) _).drew) (by simp)).tab HCK.out))
  obtain ⟨w4, hrun, hown, hg⟩ := run_makeSlice_full (P := Tryz.prog) w1.drew w1.heap.size 213 145 i0 (.agg #[.int .i64 0, .int .i64 0, .int .i64 0, .int .i64 0]) 4 Tryz.underlying213 hi hz0 hz1 .i64 .i64 T.length (by omega) (by rw [hz2]; omega) (by unfold maxLen; omega) (Nat.le_refl _)
  have H4 := Lib.hid (show Turns [] w1 w4 from ((Turns.refl _ _).drew).trans (Turns.of_below ((Below.refl _ _).grown hg (Nat.le_refl _) (fun j hj => by cases hj))))
  have HSp := Lib.hid (spr_made hown)
  have q0 := H4.out.cellQ p0 (by simp)
  have q1 := H4.out.cellQ p1 (by simp)
  have q2 := H4.out.cellQ p2 (by simp)
  have q3 := H4.out.cellQ p3 (by simp)
  have hw14 : w1.heap.size ≤ w4.heap.size := H4.out.size
  clear hown hg
  go_wp2_with fail
  have HQA := Lib.hid (fun o : Obj => show (w4.alloc o).cell? ⟨w.heap.size + 1, 0, none⟩ = some (.int .i64 (kg : Int)) ∧ (w4.alloc o).cell? ⟨w.heap.size + 1, 1, none⟩ = some (.int .i64 (kl : Int)) ∧ (w4.alloc o).cell? ⟨w.heap.size + 1, 2, none⟩ = some (.int .i64 par) ∧ (w4.alloc o).cell? ⟨w.heap.size + 1, 3, none⟩ = some (.int .i64 bud) from by
    have t : Turns [] w4 (w4.alloc o) := (Turns.refl _ _).alloc o
    exact ⟨t.cellQ q0 (by simp), t.cellQ q1 (by simp), t.cellQ q2 (by simp), t.cellQ q3 (by simp)⟩)
  go_region_held3 (fun W => W.cell? ⟨w.heap.size + 1, 0, none⟩ = some (.int .i64 (kg : Int)) ∧ W.cell? ⟨w.heap.size + 1, 1, none⟩ = some (.int .i64 (kl : Int)) ∧ W.cell? ⟨w.heap.size + 1, 2, none⟩ = some (.int .i64 par) ∧ W.cell? ⟨w.heap.size + 1, 3, none⟩ = some (.int .i64 bud))
    (first | exact ⟨p0, p1, p2, p3⟩ | exact ⟨q0, q1, q2, q3⟩ | exact HQA.out _)
    (first | (go_at_call 91; go_loud (refine HTh.out.mono ?_); rintro en w3 ⟨rfl, rfl⟩))
  obtain ⟨l, hl⟩ : ∃ l, l = w4.heap.size := ⟨_, rfl⟩
  obtain ⟨w5, hw5⟩ : ∃ W, W = w4.alloc (.cells (coC a b (kg : Int) (kl : Int) par bud (.pointer none) (.slice none 0 0) (.slice (some ⟨w1.heap.size, 0, none⟩) T.length T.length)) 216) := ⟨_, rfl⟩
  have hw5' := hw5
  unfold coC at hw5'
  rw [← hw5', ← hl]
  have HB5 := Lib.hid (show Blk w5 l 216 (coC a b (kg : Int) (kl : Int) par bud (.pointer none) (.slice none 0 0) (.slice (some ⟨w1.heap.size, 0, none⟩) T.length T.length)) from by rw [hw5, hl]; exact Blk.new _ _ _)
  have H5 := Lib.hid (show Turns [] w1 w5 from by rw [hw5]; exact H4.out.alloc _)
  have HSp5 := Lib.hid (show SpR w5 w1.heap.size (List.replicate T.length Sp.zero) from by rw [hw5]; exact HSp.out.turns ((Turns.refl [] _).alloc _) (by simp))
  have hqs := HSp.out.lt
  have HQS := Lib.hid (show w1.heap.size < w4.heap.size from hqs)
  clear hqs
  have HO := Lib.hid (show a < w.heap.size ∧ g < w.heap.size ∧ w.heap.size + 2 ≤ b ∧ b < w1.heap.size ∧ w1.heap.size < l ∧ w5.heap.size = l + 1 from by
    have e1 : b < w1.heap.size := K1.out.1.low.2
    have e2 := K1.out.2.2.2
    have e4 := H.out
    have e5 := HQS.out
    rw [hw5, hl]
    simp
    omega)
  have HPC : Hid (∀ W, Turns [l, b, a, g] w5 W → W.cell? ⟨w.heap.size + 1, 0, none⟩ = some (.int .i64 (kg : Int)) ∧ W.cell? ⟨w.heap.size + 1, 1, none⟩ = some (.int .i64 (kl : Int)) ∧ W.cell? ⟨w.heap.size + 1, 2, none⟩ = some (.int .i64 par) ∧ W.cell? ⟨w.heap.size + 1, 3, none⟩ = some (.int .i64 bud)) := Lib.hid fun W hW => by
    have o := HO.out
    have t : Turns [l, b, a, g] w1 W := (H5.out.mono (by simp)).trans hW
    have n : w.heap.size + 1 ∉ [l, b, a, g] := by simp; omega
    exact ⟨t.cellQ p0 n, t.cellQ p1 n, t.cellQ p2 n, t.cellQ p3 n⟩
  obtain ⟨N, hN⟩ : ∃ N, N = (leavesL P).length := ⟨_, rfl⟩
  rw [← hN] at hN32 hN1
  have HNo0 := nodesFstQ (fun i => w.heap.size + 2 ≤ i ∧ i < w1.heap.size) w5.drew b P T HCK.out ((K1.out.1.turns H5.out (by simp)).turns ((Turns.refl (S := []) _).drew) (by simp))
  rw [← hN] at HNo0
  have HNo := Lib.hid HNo0
  have HNN := Lib.hid hN
  have HA5 := Lib.hid ((H.out.1.turns (Turns.of_below (S := []) K1.out.2.1) (by simp) (by simp)).turns H5.out (by simp) (by simp))
  have HFl := Lib.hid (fun W (hA : ArIs W a g s) => flNew hA kg HPD.out.1 N hN1 hN32 par HPD.out.2.2.1.1 HPD.out.2.2.1.2 (by have := HS.out; have := szK_le (k := kg) hN32 HPD.out.2.2.1.2; omega) (by have := HS.out; omega))
  have k50 := HPC.out w5 (Turns.refl _ _)
  have hl5 : l < w5.heap.size := HB5.out.lt
  clear hw5 hw5' hl hN HNo0 p0 p1 p2 p3 q0 q1 q2 q3 hrun HQA HTh H4 hw14
  go_wp2_with fail
  go_region_held3 (fun W => W.cell? ⟨w.heap.size + 1, 0, none⟩ = some (.int .i64 (kg : Int)) ∧ W.cell? ⟨w.heap.size + 1, 1, none⟩ = some (.int .i64 (kl : Int)) ∧ W.cell? ⟨w.heap.size + 1, 2, none⟩ = some (.int .i64 par) ∧ W.cell? ⟨w.heap.size + 1, 3, none⟩ = some (.int .i64 bud))
    (first | exact k50 | exact HPC.out _ T6.out | exact HPC.out _ T7.out | exact HPC.out _ T8.out)
    (first
      | (go_at_call 109; go_loud (refine HNo.out.mono ?_); rintro en w6 ⟨rfl, t6, n6⟩; have T6 := Lib.hid (show Turns [l, b, a, g] w5 w6 from ((Turns.refl _ _).drew).trans (n6.mono (by simp))); have Q6 := Lib.hid t6.lt; have A6 := Lib.hid (HA5.out.turns (show Turns [b] w5 w6 from ((Turns.refl _ _).drew).trans n6) (by have := HO.out; simp; omega) (by have := HO.out; simp; omega)); have B6 := Lib.hid (show Blk w6 l _ _ from (show Turns [b] w5 w6 from ((Turns.refl _ _).drew).trans n6).blk HB5.out (by have := HO.out; simp; omega)); clear t6 n6)
      | (go_at_call 90; go_loud (refine (HFl.out w6 A6.out).mono ?_); rintro en w7 ⟨xg, rfl, e1, e2, e5⟩; have T7 := Lib.hid (T6.out.trans (e5.mono (by simp))); have B7 := Lib.hid (e5.blk B6.out (by have := HO.out; simp; omega)); have c6 : w7.cell? ⟨l, 6, none⟩ = some (.pointer none) := B7.out.cell 6; have z6 := B7.out.free 6; have T8 := Lib.hid (T7.out.trans ((Turns.refl [l, b, a, g] w7).setCell (p := ⟨l, 6, none⟩) (.inl (by simp)) (.pointer (some ⟨xg.p, 0, none⟩)))); have H7 := Lib.hid (And.intro e1 (And.intro e2 e5)); clear e1 e2 e5))
  obtain ⟨w8, hw8⟩ : ∃ W, W = w7.setCell ⟨l, 6, none⟩ (.pointer (some ⟨xg.p, 0, none⟩)) := ⟨_, rfl⟩
  rw [← hw8] at T8 ⊢
  have t78 : Turns [l] w7 w8 := by rw [hw8]; exact (Turns.refl _ _).setCell (.inl (by simp)) _
  have HB8 := Lib.hid (show Blk w8 l 216 (coC a b (kg : Int) (kl : Int) par bud (.pointer (some ⟨xg.p, 0, none⟩)) (.slice none 0 0) (.slice (some ⟨w1.heap.size, 0, none⟩) T.length T.length)) from by rw [hw8]; exact B7.out.set_ 6 _)
  have HG8 := Lib.hid (H7.out.1.turns t78 (by have := HO.out; have := H7.out.2.1; have := Q6.out; have := T6.out.size; simp; omega) (by have := HO.out; have := H7.out.2.1; have := T6.out.size; simp; omega) (by have := HO.out; simp; omega) (by have := HO.out; simp; omega) (by have := HO.out; have := H7.out.2.1; have := T6.out.size; simp; omega))
  have HX8 := Lib.hid (show w6.heap.size ≤ xg.p ∧ w6.heap.size ≤ xg.l ∧ w6.heap.size ≤ xg.q ∧ xg.m = par ∧ xg.t = s.W.length + 1 ∧ w5.heap.size ≤ w6.heap.size from ⟨H7.out.2.1.1, H7.out.2.1.2.1, H7.out.2.1.2.2.1, H7.out.2.1.2.2.2.2.1, H7.out.2.1.2.2.2.2.2, T6.out.size⟩)
  have HA8 := Lib.hid HG8.out.ki.ar
  have HQ8 := Lib.hid (show TabQ (fun i => ((w.heap.size + 2 ≤ i ∧ i < w1.heap.size) ∨ w5.drew.heap.size ≤ i) ∧ i < w6.heap.size) w8 b P T from by
    have o := HO.out
    refine (Q6.out.turns H7.out.2.2 (fun i hi hB => ?_)).turns t78 (fun i hi hB => ?_)
    · have e : w5.drew.heap.size = w5.heap.size := rfl
      simp at hi
      omega
    · have e : w5.drew.heap.size = w5.heap.size := rfl
      simp at hi
      omega)
  have hs8 : w5.heap.size ≤ w8.heap.size := T8.out.size
  have hl8 : l < w8.heap.size := by omega
  obtain ⟨o0, ho0⟩ : ∃ o : Nat → Nat, o = fun i => if i = l then 1 else if i = w1.heap.size then 2 else if i = a ∨ i = g then 3 else if w6.heap.size ≤ i then 4 else 0 := ⟨_, rfl⟩
  have HO0 := Lib.hid (show o0 l = 1 ∧ o0 w1.heap.size = 2 ∧ (o0 a = 3 ∧ o0 g = 3) ∧ (o0 xg.p = 4 ∧ o0 xg.l = 4 ∧ o0 xg.q = 4) ∧ (∀ i, ((w.heap.size + 2 ≤ i ∧ i < w1.heap.size) ∨ w5.drew.heap.size ≤ i) ∧ i < w6.heap.size → o0 i = 0) from by
    have o := HO.out
    have x := HX8.out
    have e : w5.drew.heap.size = w5.heap.size := rfl
    have ev : ∀ i, o0 i = if i = l then 1 else if i = w1.heap.size then 2 else if i = a ∨ i = g then 3 else if w6.heap.size ≤ i then 4 else 0 := fun i => by rw [ho0]
    refine ⟨?_, ?_, ⟨?_, ?_⟩, ⟨?_, ?_, ?_⟩, fun i hi => ?_⟩ <;> rw [ev] <;> (repeat' split) <;> omega)
  clear ho0
  have HT8 := Lib.hid (show w7.heap.size ≤ w8.heap.size from t78.size)
  have HXl := Lib.hid (show xg.p < w8.heap.size ∧ xg.l < w8.heap.size ∧ xg.q < w8.heap.size from ⟨HG8.out.p.lt, HG8.out.ki.lk.lt, HG8.out.ki.sp.lt⟩)
  have HSp8 := Lib.hid (HSp5.out.turns T8.out (by have := HO.out; simp; omega))
  obtain ⟨s7, hs7⟩ : ∃ s', s' = newAr_ kg s N par := ⟨_, rfl⟩
  have HS7 := Lib.hid (And.intro hs7 (show s7.room = s.room ∧ s7.W.length ≤ s.W.length + 65 from by rw [hs7, newAr_room, newAr_len]; have := szK_le (k := kg) hN32 HPD.out.2.2.1.2; omega))
  have HG8 := Lib.hid (show FlIs w8 a g kg xg s7 (newSpK kg N) from by rw [hs7]; exact HG8.out)
  clear hs7
  clear hw8 c6 z6 t78 B7 B6 H7 k50
  have HNq0 := nodesFQ w8 b P T HQ8.out.f
  rw [← HNN.out] at HNq0
  have HNq := Lib.hid HNq0
  clear HNq0
  go_wp2_with fail
  refine HNq.out.mono ?_
  rintro en w8' ⟨rfl, rfl⟩
  go_wp2
  go_loopw [56] (fun i wr => ∃ (k : Nat) (v : Value) (X : List Fx) (V : List Nat) (o : Nat → Nat), i = .int .i64 k ∧ k ≤ N ∧ Blk wr l 216 (coC a b (kg : Int) (kl : Int) par bud (.pointer (some ⟨xg.p, 0, none⟩)) v (.slice (some ⟨w1.heap.size, 0, none⟩) T.length T.length)) ∧ wr.ownsRow w8.heap.size 219 2 v k ((X.zip V).flatMap ndE) ∧ NwQ wr a g w8.heap.size o0 kg kl par N (mtQ P T) s7 xg k X V o ∧ Turns [l, a, g] w8 wr) (fun i _ => N - (intOf i).toNat)
  case atStart => exact ⟨0, _, [], [], o0, rfl, by omega, HB8.out, World.ownsRow_nil _ _ _ _, NwQ.start HG8.out.ki.ar HG8.out, Turns.refl _ _⟩
  case round =>
    obtain ⟨k, v, X, V, o, rfl, hk, hb, hown, hQ, ht⟩ := hrel
    obtain ⟨wo, rfl⟩ : ∃ wo : World, wo = wr := ⟨_, rfl⟩
    obtain ⟨xs, hxs⟩ : ∃ l, l = (X.zip V).flatMap ndE := ⟨_, rfl⟩
    rw [← hxs] at hown
    have HXS := Lib.hid hxs
    clear hxs
    have H := Lib.hid (And.intro hb (And.intro hown (And.intro hQ ht)))
    have h8o := ht.size
    by_cases hlt : k < N
    · obtain ⟨A, cap, rfl⟩ := own_form hown
      have HQo := Lib.hid (show TabQ (fun i => ((w.heap.size + 2 ≤ i ∧ i < w1.heap.size) ∨ w5.drew.heap.size ≤ i) ∧ i < w6.heap.size) wo.drew b P T from by
        have o := HO.out
        have e : w5.drew.heap.size = w5.heap.size := rfl
        exact (HQ8.out.turns ht (fun i hi hB => by simp at hi; omega)).turns ((Turns.refl (S := []) _).drew) (by simp))
      obtain ⟨x, hx⟩ := getElem?_lt (show k < (leavesL P).length by rw [← HNN.out]; exact hlt)
      have HMt := Lib.hid (matesF wo.drew b P T HQo.out.f hx)
      have hct : T.count x ≤ 32 := Nat.le_trans List.count_le_length hT32
      have HXk := Lib.hid hx
      have HCT := Lib.hid (show mtQ P T k = max 1 (T.count x) from by unfold mtQ; rw [getD_of hx])
      obtain ⟨ct, hcte⟩ : ∃ ct, ct = T.count x := ⟨_, rfl⟩
      rw [← hcte] at HCT
      rw [← hcte] at HMt hct
      obtain ⟨s', hs'⟩ : ∃ q, q = coNewS kl par (mtQ P T) s7 k := ⟨_, rfl⟩
      have hA := hQ.ar
      rw [← hs'] at hA
      have ho8 : Turns [l, b, a, g] w5 wo := T8.out.trans (ht.mono (by simp))
      have HPo := Lib.hid (HPC.out wo ho8)
      obtain ⟨p0, p1, p2, p3⟩ := HPC.out wo ho8
      have hlen : s'.W.length + 100 ≤ s'.room ∧ s'.ops + 1 ≤ 1000000000000 := by
        have h5 := ops_coNewS kl par (mtQ P T) s7 k
        have h6 := ops_newAr kg s N par
        rw [← HS7.out.1] at h6
        rw [← hs'] at h5
        have h1 := coNewS_len (kl := kl) (par := par) (f := mtQ P T) (s := s7) (fun n => (mtQ_le hT32 n).2) HPD.out.2.2.1.2 k
        have h2 := coNewS_room (kl := kl) (par := par) (f := mtQ P T) (s := s7) k
        rw [← hs'] at h1 h2
        have h3 := HS7.out.2
        have h4 := HS.out
        omega
      have HSe := Lib.hid hs'
      have HFL := Lib.hid (fun n (h1 : 1 ≤ n) (h2 : n ≤ 32) => flNew (w := wo.drew) (hA.turns ((Turns.refl (S := []) _).drew) (by simp) (by simp)) kl HPD.out.2.1 n h1 h2 par HPD.out.2.2.1.1 HPD.out.2.2.1.2 (by have := szK_le (k := kl) h2 HPD.out.2.2.1.2; omega) (by omega))
      have hllo := hb.lt
      have ho8 := Lib.hid ho8
      clear hb hown hA hQ ht hx hcte hs'
      obtain ⟨z, hz⟩ : ∃ z : Int, z = (ct : Int) := ⟨_, rfl⟩
      rw [← hz] at HMt
      obtain ⟨n, hn⟩ : ∃ n : Nat, n = max 1 ct := ⟨_, rfl⟩
      have hif : (if 1 < z then z else 1) = (n : Int) := by split <;> omega
      have HF1 := Lib.hid (HFL.out n (by omega) (by omega))
      have HNe := Lib.hid (show mtQ P T k = n from by rw [HCT.out, hn])
      have HN32 := Lib.hid (show n ≤ 32 from by omega)
      clear hn
      clear hz hct
      go_wp2_with fail
      go_region_held3 (fun W => W.cell? ⟨w.heap.size + 1, 0, none⟩ = some (.int .i64 (kg : Int)) ∧ W.cell? ⟨w.heap.size + 1, 1, none⟩ = some (.int .i64 (kl : Int)) ∧ W.cell? ⟨w.heap.size + 1, 2, none⟩ = some (.int .i64 par) ∧ W.cell? ⟨w.heap.size + 1, 3, none⟩ = some (.int .i64 bud))
        (first | exact HPo.out | exact HP7.out)
        (first
          | (go_at_call 110; go_loud (refine HMt.out.mono ?_); rintro en w6' ⟨rfl, rfl⟩)
          | (go_at_call 90; go_loud (refine HF1.out.mono ?_); rintro en w7' ⟨y, rfl, e1, e2, e5⟩; have T7' := Lib.hid (show Turns [a, g] wo w7' from ((Turns.refl _ _).drew).trans e5); have HP7 := Lib.hid (HPC.out w7' (ho8.out.trans (T7'.out.mono (by simp)))); have H7' := Lib.hid (And.intro e1 e2); clear e1 e2 e5))
      all_goals
        obtain ⟨s2, hs2⟩ : ∃ q, q = newAr_ kl s' n par := ⟨_, rfl⟩
        have HS2 := Lib.hid hs2
        have hlen2 : s2.W.length + 1 ≤ s2.room := by
          have h1 := newAr_len kl s' n par
          have h2 := newAr_room kl s' n par
          rw [← hs2] at h1 h2
          have h3 := szK_le (k := kl) HN32.out HPD.out.2.2.1.2
          omega
        have HA7 := Lib.hid (show ArIs w7' a g s2 from by rw [hs2]; exact H7'.out.1.ki.ar)
        clear hs2
        go_wp2_with fail
        refine (takeY HA7.out 1 hlen2).mono ?_
        rintro en w9 ⟨rfl, k9, t9⟩
        have T9 := Lib.hid (T7'.out.trans (t9.mono (by simp)))
        have H9 := Lib.hid k9
        have hna : l ∉ [a, g] := by have := HO.out; simp; omega
        have bl9 : Blk w9 l 216 (coC a b (kg : Int) (kl : Int) par bud (.pointer (some ⟨xg.p, 0, none⟩)) (.slice A k cap) (.slice (some ⟨w1.heap.size, 0, none⟩) T.length T.length)) := T9.out.blk H.out.1 hna
        have o9 : w9.ownsRow w8.heap.size 219 2 (.slice A k cap) k xs := Turns.own H.out.2.1 T9.out (fun x hx => by have := (H.out.2.1.lt x hx).1; have := HO.out; simp; omega)
        have c7 : w9.cell? ⟨l, 7, none⟩ = some (.slice A k cap) := bl9.cell 7
        have hs9 : wo.heap.size ≤ w9.heap.size := T9.out.size
        have hll9 := bl9.lt
        have hlow : (Value.slice A k cap).ownBlock ≠ some l := fun e => by have := (H.out.2.1.lt l e).1; omega
        have HB9 := Lib.hid bl9
        have HT79 := Lib.hid t9
        have HAQ := Lib.hid (show ∀ q, (Value.slice A k cap).ownBlock = some q → ∃ cs, Blk w9 q 219 cs from fun q hq => by
          rcases o9.2 with ⟨e, _⟩ | ⟨g', c', cu', e, _, hb', _⟩
          · injection e with e1 e2 e3
            subst e1
            simp [Value.ownBlock] at hq
          · injection e with e1 e2 e3
            subst e1
            simp only [Value.ownBlock, Option.some.injEq] at hq
            subst hq
            exact ⟨_, hb'⟩)
        have HO9 := Lib.hid o9
        clear k9 t9 bl9 o9 hna
        go_wp2_with (at_builtin; refine wpList_append_lies _ rfl _ _ 214 rfl w8.heap.size 219 j0 (.agg #[.pointer none, .int .i64 0]) 2 16 Tryz.underlying214 HJ.out.1 HJ.out.2.1 HJ.out.2.2.1 HJ.out.2.2.2 rfl (by decide) _ _ _ rfl (HO9.out.alloc _) ⟨w9.heap.size, 0, none⟩ 1 1 [.pointer (some ⟨y.p, 0, none⟩), .int .i64 ((s2.W.length : Int) + 1)] rfl rfl (cells_newF _ _ _) (by simp [Value.oneCell']) (by decide) ?c3 ?c4 ?c5 _ rfl ?_)
        case c3 => unfold maxLen; omega
        case c4 => omega
        case c5 => simp; omega
        intro g3 cap3 w10 h3 hg3 hl3 hlt3
        have bl10 := (HB9.out.alloc (.cells #[.pointer (some ⟨y.p, 0, none⟩), .int .i64 ((s2.W.length : Int) + 1)] 219)).grown hg3 (fun e => hlow e.symm)
        have c10 : w10.cell? ⟨l, 7, none⟩ = some (.slice A k cap) := bl10.cell 7
        have z10 := bl10.free 7
        obtain ⟨w11, hw11⟩ : ∃ W, W = w10.setCell ⟨l, 7, none⟩ (.slice (some ⟨g3, 0, none⟩) (k + 1) cap3) := ⟨_, rfl⟩
        have tr : Turns (l :: (Value.slice A k cap).ownBlock.toList) w9 w11 := by
          rw [hw11]
          exact (((Turns.refl _ _).alloc _).trans ((Turns.grownByQ hg3).mono fun i hi => List.mem_cons_of_mem _ hi)).trans ((Turns.refl _ _).setCell (.inl (by simp)) _)
        have HR1 := Lib.hid (show Blk w11 l 216 (coC a b (kg : Int) (kl : Int) par bud (.pointer (some ⟨xg.p, 0, none⟩)) (.slice (some ⟨g3, 0, none⟩) (k + 1) cap3) (.slice (some ⟨w1.heap.size, 0, none⟩) T.length T.length)) from by rw [hw11]; exact bl10.set_ 7 _)
        have HR2 := Lib.hid (show w11.ownsRow w8.heap.size 219 2 (.slice (some ⟨g3, 0, none⟩) (k + 1) cap3) (k + 1) (xs ++ [.pointer (some ⟨y.p, 0, none⟩), .int .i64 ((s2.W.length : Int) + 1)]) from by
          rw [hw11]
          have hg3b := (h3.lt g3 rfl).1
          exact Turns.own h3 ((Turns.refl [l] _).setCell (.inl (by simp)) _) (fun x hx => by injection hx with hx; subst hx; simp; omega))
        have hAq : ∀ r, r < w8.heap.size → r ≠ l → r ∉ l :: (Value.slice A k cap).ownBlock.toList := fun r hr hrl hm => by
          rcases List.mem_cons.1 hm with e | e
          · exact hrl e
          · have := (H.out.2.1.lt r (by simpa using e)).1; omega
        have HNX := Lib.hid (show NwQ w11 a g w8.heap.size o0 kg kl par N (mtQ P T) s7 xg (k + 1) (X ++ [y]) (V ++ [cwN kl par (mtQ P T) s7 k]) (fun i => if wo.heap.size ≤ i then 5 + k else o i) from by
          have e7 := H7'.out
          rw [← HNe.out, HSe.out] at e7
          have e9 : ArIs w9 a g (takeS (newAr_ kl (coNewS kl par (mtQ P T) s7 k) (mtQ P T k) par) 1) := by
            rw [← HSe.out, HNe.out, ← HS2.out]; exact H9.out
          have ho' := HO.out
          refine H.out.2.2.1.step h8o e7.1 T7'.out ⟨e7.2.1, e7.2.2.1, e7.2.2.2.1⟩ e7.2.2.2.2.2.2 e7.2.2.2.2.2.1 HT79.out e9 tr (hAq a (by omega) (by omega)) (hAq g (by omega) (by omega)) (fun i hi => ?_)
          rcases List.mem_cons.1 hi with e | e
          · subst e; exact ⟨_, _, HB9.out, .inl rfl⟩
          · obtain ⟨cs, hcs⟩ := HAQ.out i (by simpa using e)
            exact ⟨_, cs, hcs, .inr rfl⟩)
        have HXV := Lib.hid (show ((X ++ [y]).zip (V ++ [cwN kl par (mtQ P T) s7 k])).flatMap ndE = xs ++ [.pointer (some ⟨y.p, 0, none⟩), .int .i64 ((s2.W.length : Int) + 1)] from by
          rw [zip_snoc _ _ _ _ (by rw [H.out.2.2.1.lX, H.out.2.2.1.lV]), ← HXS.out]
          have : ((cwN kl par (mtQ P T) s7 k : Nat) : Int) = (s2.W.length : Int) + 1 := by
            unfold cwN
            rw [← HSe.out, HNe.out, ← HS2.out]; omega
          rw [this])
        have hlowA : ∀ x, (Value.slice A k cap).ownBlock = some x → w8.heap.size ≤ x := fun x hx => (H.out.2.1.lt x hx).1
        have HR5 := Lib.hid (show Turns [l, a, g] w8 w11 from by
          have t1 : Turns ([l, a, g] ++ (Value.slice A k cap).ownBlock.toList) w8 w11 := ((H.out.2.2.2.mono fun i hi => List.mem_append_left _ hi).trans (T9.out.mono fun i hi => List.mem_append_left _ (by simp at hi ⊢; omega))).trans (tr.mono fun i hi => by
            rcases List.mem_cons.1 hi with e | e
            · exact List.mem_append_left _ (by simp [e])
            · exact List.mem_append_right _ e)
          refine t1.fresh fun i hi => ?_
          rcases List.mem_append.1 hi with hi | hi
          · exact .inl hi
          · exact .inr (hlowA i (by simpa using hi)))
        rw [hw11] at HR1 HR2 HNX HR5
        clear h3 hg3 hl3 bl10 HB9 HO9 H9 tr hw11 hlowA
        go_wp2
        go_roundw
        case rel => exact ⟨k + 1, _, _, _, _, by go_num, by omega, HR1.out, by rw [HXV.out]; exact HR2.out, HNX.out, HR5.out⟩
        case measure => simp [intOf]; omega
    · obtain rfl : k = N := by omega
      clear hb hown hQ ht
      go_wp2
      go_ret2
      have o' := HO.out
      have s8 := T8.out.size
      have s1 := K1.out.2.1.size
      have s15 := H5.out.size
      have hx8 := HX8.out
      have hxl := HXl.out
      have o0' := HO0.out
      have e68 := T8.out.size
      have Z := H.out
      rw [HS7.out.1, HXS.out, HNN.out] at Z
      have hQ := HQ8.out.turns H.out.2.2.2 (fun i hi hB => by
        have e : w5.drew.heap.size = w5.heap.size := rfl
        simp at hi
        omega)
      have hlow6 : w6.heap.size ≤ w8.heap.size := by omega
      obtain ⟨x, e1, e2, e3, e4, e5, hco⟩ := co_made (bud := bud) Z.2.2.1 HCK.out HPD.out.1 HPD.out.2.1 HPD.out.2.2.1 HPD.out.2.2.2 (by rw [← HNN.out]; exact hN1) Z.1 Z.2.1 hQ (HSp8.out.turns H.out.2.2.2 (by have := HO.out; simp; omega)) hx8.2.2.2.2.1 hx8.2.2.2.1 HS.out.2.1
        o0'.1 o0'.2.1 o0'.2.2.1 o0'.2.2.2.1 o0'.2.2.2.2 (by omega) (by omega) (by omega) (by omega) (by omega) (fun i hi => by omega)
      refine ⟨x, _, rfl' e1, hco, fun i hi => ?_, ?_⟩
      · have e : w5.drew.heap.size = w5.heap.size := rfl
        have u8 := H.out.2.2.2.size
        rcases hi with hi | hi | hi | hi | ⟨y, hy, hi⟩ | hi
        · have := hco.lk.lt; omega
        · obtain ⟨Z, z⟩ := hco.nd; have := z.lt; omega
        · have := hco.sp.lt; omega
        · rw [e3] at hi; omega
        · rw [e4] at hy
          obtain ⟨n, hn, rfl⟩ := List.getElem_of_mem hy
          have e9 := H.out.2.2.1.ls n _ (List.getElem?_eq_getElem hn)
          have l1 := e9.1.p.lt
          have l2 := e9.1.ki.lk.lt
          have l3 := e9.1.ki.sp.lt
          have e10 := e9.2.2.2.2
          clear e9
          omega
        · omega
      · have t : Turns [l, b, a, g] w wo := (((Turns.of_below (S := [l, b, a, g]) K1.out.2.1).trans (H5.out.mono (by simp))).trans T8.out).trans (H.out.2.2.2.mono (by simp))
        exact t.fresh fun i hi => by simp at hi ⊢; omega
end Go.Proofs.YtagajjilccjplaaGreat
end
section
set_option linter.unusedVariables false
set_option linter.unusedSimpArgs false
/- Layer 24 (cohort): what holds of a lock behind any acts: bounds, places, words; a new lock's. -/
namespace Go.Proofs.YtagajjilccjplaaGreat
open Go.RowKit

/-- what holds of what does not change -/
structure CoW0 (c : CoC) (n N L : Nat) : Prop where
  k : (1 ≤ c.kg ∧ c.kg ≤ 5) ∧ 1 ≤ c.kl ∧ c.kl ≤ 5
  inj : Inj c n
  nd : ∀ i, i < n → c.node i < N ∧ c.slot i < 32
  N32 : N ≤ 32
  m : 1 ≤ c.m ∧ c.m ≤ 4
  tg : 1 ≤ c.tg ∧ c.tg ≤ L
  tl : ∀ j, j < N → 1 ≤ c.tl j ∧ c.tl j ≤ L
/-- and of what does -/
structure CoOk (c : CoC) (n L : Nat) (B : Int) (o : Nat) (st : Co) : Prop where
  bd : CoB c B st
  v : CoV c n st
  len : st.s.W.length = L
  ops : st.s.ops ≤ o
section
variable {c : CoC} {n N L o : Nat} {B : Int} {st : Co}
theorem CoOk.step (h : CoOk c n L B o st) (k : CoW0 c n N L) (hB : 40 ≤ B) (hB2 : B ≤ 10000000000000) {i : Nat} (hi : i < n) : CoOk c n L (B + 2) (o + 1) (coStep c st i) := by
  have h1 := k.nd i hi
  have h2 := k.N32
  have h3 := k.m
  have h4 := near_coStep (c := c) (st := st) i
  exact ⟨coStep_bd h.bd (by omega) hB2 i (by omega) (by omega) (by omega), coStep_v h.v k.inj k.k hi, by rw [h4.2, h.len], by have := h4.1; have := h.ops; omega⟩
theorem CoOk.ask (h : CoOk c n L B o st) (k : CoW0 c n N L) (hB : 40 ≤ B) {i : Nat} (hi : i < n) : CoOk c n L (B + 2) (o + 1) (coAsk c st i) := by
  have h4 := near_coAsk (c := c) (st := st) i
  exact ⟨coAsk_bd h.bd (by omega) i, coAsk_v h.v k.inj hi, by rw [h4.2, h.len], by have := h4.1; have := h.ops; omega⟩
theorem CoOk.leave (h : CoOk c n L B o st) (k : CoW0 c n N L) (hB : 40 ≤ B) {i : Nat} (hi : i < n) : CoOk c n L (B + 2) (o + 1) (coLeave st i) := by
  have h4 := near_coLeave (st := st) i
  exact ⟨coLeave_bd h.bd (by omega) i, coLeave_v h.v k.inj hi, by rw [h4.2, h.len], by have := h4.1; have := h.ops; omega⟩
theorem CoOk.mono (h : CoOk c n L B o st) {C : Int} (hC : B ≤ C) : CoOk c n L C o st := ⟨h.bd.mono hC, h.v, h.len, h.ops⟩
end
section
variable {BD : Nat → Prop} {w : World} {a g : Nat} {x : Cox} {c : CoC} {P T : List Int} {st : Co} {L o : Nat} {B : Int}
theorem CoOk.pre (h : CoOk c x.n L B o st) (k : CoW0 c x.n x.N L) (f : CoFx BD a g x c P T) (hB : 40 ≤ B) (hB2 : B ≤ 10000000000) (ho : o + 1 ≤ 1000000000000) : CoPre B x c st := by
  refine ⟨by have := h.ops; omega, h.bd, by omega, hB2, ?_, fun n y hy => ?_, h.v⟩
  · rw [← f.tg]
    exact inR_true.2 (by rw [h.len]; exact k.tg)
  · rw [← (f.tl n y hy).1]
    have hn : n < x.N := by rw [← f.lX]; exact (List.getElem?_eq_some_iff.1 hy).1
    exact inR_true.2 (by rw [h.len]; exact k.tl n hn)
end
-- a new lock
theorem bd_newAr {s : Ar} {k n m : Nat} {B : Int} (h : WdB B s) (hB : 40 ≤ B) (hn : n ≤ 32) : WdB B (newAr_ k s n m) := by
  have h1 : ∀ j, WdB B (takeS s j) := fun j v hv => by
    have hv' : v ∈ s.W ++ List.replicate j 0 := hv
    rcases List.mem_append.1 hv' with h2 | h2
    · exact h v h2
    · rw [(List.mem_replicate.1 h2).2]; omega
  unfold newAr_
  split
  · exact (h1 _).store _ _ (by omega)
  split
  · exact (h1 _).store _ _ (by omega)
  · exact h1 _
theorem bd_coNewS {s : Ar} {kl par : Nat} {f : Nat → Nat} {B : Int} (h : WdB B s) (hB : 40 ≤ B) (hf : ∀ n, f n ≤ 32) (k : Nat) : WdB B (coNewS kl par f s k) := by
  induction k with
  | zero => exact h
  | succ k ih =>
    have h1 := bd_newAr (k := kl) (m := par) ih hB (hf k)
    intro v hv
    have hv' : v ∈ (newAr_ kl (coNewS kl par f s k) (f k) par).W ++ List.replicate 1 0 := hv
    rcases List.mem_append.1 hv' with h2 | h2
    · exact h1 v h2
    · rw [(List.mem_replicate.1 h2).2]; omega
theorem newSp_pc (k n : Nat) : ∀ p ∈ newSpK k n, p.pc = 0 ∧ 0 ≤ p.a ∧ p.a ≤ n ∧ p.b = 0 := by
  intro p hp
  unfold newSpK at hp
  split at hp
  · obtain ⟨i, hi, rfl⟩ := List.mem_map.1 hp
    have := List.mem_range.1 hi
    exact ⟨rfl, by show (0 : Int) ≤ (i : Int) + 1; omega, by show (i : Int) + 1 ≤ n; omega, rfl⟩
  · rw [(List.mem_replicate.1 hp).2]; exact ⟨rfl, Int.le_refl _, by show (0 : Int) ≤ n; omega, rfl⟩
theorem pcK0 (k : Nat) {p : Sp} (h : p.pc = 0) : pcK k p := by
  unfold pcK mcsPc
  rw [h]
  split
  · omega
  split <;> omega
theorem sp_new {k n : Nat} {B : Int} (hn : n ≤ 32) (hB : 40 ≤ B) : ∀ p ∈ newSpK k n, SpB k B p := fun p hp => by
  obtain ⟨_, h1, h2, h3⟩ := newSp_pc k n p hp
  exact ⟨h1, by omega, by omega, by omega, fun _ => by omega⟩
theorem coNewS_mono (kl par : Nat) (f : Nat → Nat) (s : Ar) {j k : Nat} (h : j ≤ k) : (coNewS kl par f s j).W.length ≤ (coNewS kl par f s k).W.length := by
  induction k with
  | zero => obtain rfl : j = 0 := by omega
            exact Nat.le_refl _
  | succ k ih =>
    by_cases e : j = k + 1
    · subst e; exact Nat.le_refl _
    · have := ih (by omega)
      show _ ≤ (takeS (newAr_ _ _ _ _) 1).W.length
      rw [takeS_len, newAr_len]
      omega
theorem coNewS_lt (kl par : Nat) (f : Nat → Nat) (s : Ar) {j k : Nat} (h : j < k) : (coNewS kl par f s j).W.length + szK kl (f j) par + 1 ≤ (coNewS kl par f s k).W.length := by
  refine Nat.le_trans ?_ (coNewS_mono kl par f s (show j + 1 ≤ k from h))
  show _ ≤ (takeS (newAr_ _ _ _ _) 1).W.length
  rw [takeS_len, newAr_len]
  omega
theorem szK_pos (k n m : Nat) : 1 ≤ szK k n m := by
  unfold szK
  split
  · omega
  split
  · omega
  split
  · omega
  split <;> omega
theorem count_takeC {T : List Int} {k : Nat} {y : Int} (h : T[k]? = some y) (x : Int) : (T.take (k + 1)).count x = (T.take k).count x + if y == x then 1 else 0 := by
  rw [List.take_add_one, h, List.count_append, Option.toList_some, List.count_cons, List.count_nil, Nat.zero_add]
theorem slot_inj {P T : List Int} (hc : chkT P T = 0) {i j : Nat} (hi : i < T.length) (hj : j < T.length) (h1 : nodeQ P T i = nodeQ P T j) (h2 : slotOf T i = slotOf T j) : i = j := by
  have e : T.getD i 0 = T.getD j 0 := by rw [← (slot_lt hc hi).2.1, ← (slot_lt hc hj).2.1, h1]
  obtain ⟨y, hy⟩ := getElem?_lt hi
  obtain ⟨z, hz⟩ := getElem?_lt hj
  rw [getD_of hy, getD_of hz] at e
  subst e
  unfold slotOf at h2
  rw [getD_of hy, getD_of hz] at h2
  have key : ∀ (i j : Nat), i < j → T[i]? = some y → (T.take i).count y < (T.take j).count y := fun i j hij hy => by
    have e1 := count_takeC hy y
    simp only [beq_self_eq_true, ↓reduceIte] at e1
    have e2 : (T.take (i + 1)).count y ≤ (T.take j).count y := by
      have : (T.take (i + 1)).Sublist (T.take j) := (List.take_prefix_take_left (by omega)).sublist
      exact this.count_le y
    omega
  rcases Nat.lt_trichotomy i j with h | h | h
  · have := key i j h hy; omega
  · exact h
  · have := key j i h hz; omega
section
variable {kg kl par : Nat} {bud : Int} {P T : List Int} {s : Ar}
theorem new_w0 (hc : chkT P T = 0) (hkg : 1 ≤ kg ∧ kg ≤ 5) (hkl : 1 ≤ kl ∧ kl ≤ 5) (hp : 1 ≤ par ∧ par ≤ 4) :
    CoW0 (coCN kg kl par bud P T s) T.length (leavesL P).length (coStN kg kl par P T s).s.W.length := by
  have hml := many_lt (chk_ok hc).1
  have hT32 : T.length ≤ 32 := hml.2.2.2
  have hN32 : (leavesL P).length ≤ 32 := by
    have := leavesTo_len P P.length
    show (leavesTo P P.length).length ≤ 32; omega
  refine ⟨⟨hkg, hkl⟩, fun i j hi hj h1 h2 => ?_, fun i hi => ?_, hN32, ?_, ?_, fun j hj => ?_⟩
  · have e1 := (slot_lt hc hi).2.2.1
    have e2 := (slot_lt hc hj).2.2.1
    have h2' : (slotOf T i).toNat = (slotOf T j).toNat := h2
    exact slot_inj hc hi hj h1 (by omega)
  · obtain ⟨h1, _, h3, h4⟩ := slot_lt hc hi
    have := (mtQ_le (P := P) hT32 (nodeQ P T i)).2
    exact ⟨h1, by show (slotOf T i).toNat < 32; omega⟩
  · show 1 ≤ (par : Int) ∧ (par : Int) ≤ 4
    omega
  · show 1 ≤ ((s.W.length + 1 : Nat) : Int) ∧ ((s.W.length + 1 : Nat) : Int) ≤ ((coNewS _ _ _ _ _).W.length : Int)
    have h1 := coNewS_mono kl par (mtQ P T) (newAr_ kg s (leavesL P).length par) (Nat.zero_le (leavesL P).length)
    have h2 : (coNewS kl par (mtQ P T) (newAr_ kg s (leavesL P).length par) 0).W.length = s.W.length + szK kg (leavesL P).length par := newAr_len _ _ _ _
    have h3 := szK_pos kg (leavesL P).length par
    omega
  · show 1 ≤ (((coNewS _ _ _ _ j).W.length + 1 : Nat) : Int) ∧ (((coNewS _ _ _ _ j).W.length + 1 : Nat) : Int) ≤ ((coNewS _ _ _ _ _).W.length : Int)
    have h1 := coNewS_lt kl par (mtQ P T) (newAr_ kg s (leavesL P).length par) hj
    omega
theorem new_ok (hc : chkT P T = 0) (hs : WdB 40 s) :
    CoOk (coCN kg kl par bud P T s) T.length (coStN kg kl par P T s).s.W.length 40 (s.ops + 40) (coStN kg kl par P T s) := by
  have hml := many_lt (chk_ok hc).1
  have hT32 : T.length ≤ 32 := hml.2.2.2
  have hN32 : (leavesL P).length ≤ 32 := by
    have := leavesTo_len P P.length
    show (leavesTo P P.length).length ≤ 32; omega
  have hf : ∀ n, mtQ P T n ≤ 32 := fun n => (mtQ_le hT32 n).2
  have hL : ∀ x ∈ (coStN kg kl par P T s).L, ∃ n, x = newSpK kl (mtQ P T n) := fun x hx => by
    obtain ⟨n, _, rfl⟩ := List.mem_map.1 hx
    exact ⟨n, rfl⟩
  have hlen : (coStN kg kl par P T s).L.length = (leavesL P).length := by simp [coStN, coNewL]
  have hget : ∀ n, n < (leavesL P).length → (coStN kg kl par P T s).L.getD n [] = newSpK kl (mtQ P T n) := fun n hn => by
    rw [List.getD_eq_getElem?_getD]
    simp [coStN, coNewL, hn]
  refine ⟨⟨bd_coNewS (bd_newAr hs (by omega) hN32) (by omega) hf _, sp_new hN32 (by omega), fun x hx => ?_, fun p hp => ?_⟩, ⟨fun p hp => pcK0 _ (newSp_pc _ _ p hp).1, fun x hx p hp => ?_, fun i hi => ?_, by simp [coStN], fun i hi => ?_, fun i hi => ?_⟩, rfl, ?_⟩
  · obtain ⟨n, rfl⟩ := hL x hx
    exact sp_new (hf n) (by omega)
  · rw [(List.mem_replicate.1 hp).2]
    exact ⟨Int.le_refl _, by show (0 : Int) ≤ 40; omega⟩
  · obtain ⟨n, rfl⟩ := hL x hx
    exact pcK0 _ (newSp_pc _ _ p hp).1
  · left
    refine ⟨?_, ?_⟩
    · show (sv (List.replicate T.length Sp.zero) i).pc = 0
      unfold sv
      rw [List.getD_eq_getElem?_getD, List.getElem?_replicate]
      split <;> rfl
    · have hlt := slot_lt hc hi
      show (((coStN kg kl par P T s).L.getD (nodeQ P T i) []).getD (slotOf T i).toNat Sp.zero).pc = 0
      rw [hget _ hlt.1]
      exact getD_memZ (P := fun p => p.pc = 0) (fun p hp => (newSp_pc _ _ p hp).1) rfl _
  · show nodeQ P T i < (newSpK _ _).length
    rw [newSpK_len]; exact (slot_lt hc hi).1
  · show nodeQ P T i < _ ∧ (slotOf T i).toNat < _
    have hlt := slot_lt hc hi
    rw [hlen]
    refine ⟨hlt.1, ?_⟩
    show _ < ((coStN kg kl par P T s).L.getD (nodeQ P T i) []).length
    rw [hget _ hlt.1, newSpK_len]
    exact hlt.2.2.2
  · have h1 := ops_coNewS kl par (mtQ P T) (newAr_ kg s (leavesL P).length par) (leavesL P).length
    have h2 := ops_newAr kg s (leavesL P).length par
    show (coNewS _ _ _ _ _).ops ≤ _
    omega
end
end Go.Proofs.YtagajjilccjplaaGreat
end
