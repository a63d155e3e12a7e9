/- Joined: Ar3, Ar4, SpI, FlM, Fk1, Fn1, Fn3. -/
import Derived.Deep.QuietTactic
import Derived.BigQuiet
import Derived.Test.YtagajjilccjplaaGreatRows
import Derived.RegionCalls
import Derived.Deep.AppendLies
import Derived.Deep.RegionHeld3
import Derived.Laws.MakeOwn
import Derived.Deep.DeepCutAuto
import Derived.Test.YtagajjilccjplaaGreatMgFamilyPasses1
section
set_option linter.unusedVariables false
set_option linter.unusedSimpArgs false
/- Layer 1: a new arena, and taking words. -/
namespace Go.Proofs.YtagajjilccjplaaGreat
open Go.RowKit

theorem Tryz.infoAt : (Tryz.prog.info? 150).map (fun i => (i.zero, i.size, i.bytes)) = some (some (.agg #[.int .i64 0]), 1, 8) := by kernel_rfl
theorem made_const1 (u : Value) (n : Nat) : (madeCells #[u] n).toList = List.replicate n u := by
  unfold madeCells
  rw [Array.toList_map, Array.toList_range]
  refine List.ext_getElem? fun i => ?_
  rw [List.getElem?_map, List.getElem?_replicate]
  by_cases h : i < n
  · rw [List.getElem?_range h, if_pos h]; simp [Nat.mod_one]
  · rw [if_neg h]; simp; omega
theorem own_blk {w : World} {base : Nat} {e : TypeId} {sz g n : Nat} {xs : List Value} (h : w.ownsRow base e sz (.slice (some ⟨g, 0, none⟩) n n) n xs) : Blk w g e xs.toArray := by
  rcases h.2 with ⟨h', _⟩ | ⟨g', cap', cur, h', hb, hg, hnc, hcm, hcs, ht⟩
  · simp at h'
  · simp only [Value.slice.injEq, Option.some.injEq, Addr.mk.injEq, and_true, true_and] at h'
    obtain ⟨rfl, rfl⟩ := h'
    have e1 : cur = xs.toArray := by
      rw [← ht]
      apply Array.ext'
      rw [List.take_of_length_le (by rw [Array.length_toList, hcs]; exact Nat.le_refl _)]
    unfold Blk
    rw [hg, e1]
def clampA (room : Int) : Nat := if room < 0 then 0 else if 4096 < room then 4096 else room.toNat
def newAr (room : Int) : Ar := ⟨[], clampA room, 0, 0, 0, false⟩
def NewA (w : World) (room : Int) (e : Ending) (w' : World) : Prop := ∃ a g, e = .returned (.pointer (some ⟨a, 0, none⟩)) ∧ ArIs w' a g (newAr room) ∧ w.heap.size ≤ a ∧ w.heap.size ≤ g ∧ Below w.heap.size w w'
set_option maxRecDepth 100000 in
set_option maxHeartbeats 1000000 in
theorem newA_any (w : World) (room : Int) : Calls Tryz.prog 32 #[.int .i64 room] w (NewA w room) := by
  obtain ⟨i0, hi, hz0, hz1, hz2⟩ := info_parts Tryz.infoAt
  obtain ⟨n, hn⟩ : ∃ n, n = clampA room := ⟨_, rfl⟩
  have hc : n ≤ 4096 := by rw [hn]; unfold clampA; split <;> (try split) <;> omega
  have HN := Lib.hid hn
  have key : ∀ (w1 : World), w1.ownsRow w.heap.size 150 1 (.slice (some ⟨w.heap.size, 0, none⟩) n n) n (madeCells #[.int .i64 0] n).toList → w.grownBy w1 none →
      ArIs (w1.alloc (.cells #[.slice (some ⟨w.heap.size, 0, none⟩) n n, .int .i64 0, .int .i64 0, .int .i64 0, .int .i64 0, .bool false] 106)) w1.heap.size w.heap.size (newAr room) ∧ w.heap.size ≤ w1.heap.size ∧ Below w.heap.size w (w1.alloc (.cells #[.slice (some ⟨w.heap.size, 0, none⟩) n n, .int .i64 0, .int .i64 0, .int .i64 0, .int .i64 0, .bool false] 106)) := by
    intro w1 hown hg
    rw [made_const1] at hown
    have hb := own_blk hown
    have hlt := hb.lt
    refine ⟨⟨?_, ?_, by omega, by simp [newAr], by simp [newAr]; omega, by simp [newAr]⟩, by omega, ((Below.refl w.heap.size w).grown hg (Nat.le_refl _) (fun j hj => by cases hj)).alloc (by omega) _⟩
    · have := Blk.new w1 106 (arCells w.heap.size (newAr room))
      unfold arCells newAr at this ⊢
      rw [← HN.out] at this ⊢
      simpa using this
    · have e : (wdL (newAr room)).toArray = (List.replicate n (Value.int .i64 0)).toArray := by unfold wdL newAr; simp [← HN.out]
      rw [e]
      exact hb.alloc _
  have KEY := Lib.hid key
  clear key
  rcases (show 4096 < room ∨ (room ≤ 4096 ∧ 0 < room) ∨ room ≤ 0 by omega) with h | ⟨h, h'⟩ | h
  · have E : Hid ((4096 : Int) = (n : Int)) := Lib.hid (by rw [hn]; unfold clampA; rw [if_neg (by omega), if_pos h]; rfl)
    clear hn
    go_enter Tryz.func32, Tryz.ntmps32
    go_wp2_with (refine wpList_make_full _ rfl (.tmp 5) (.tmp 5) 104 rfl w.heap.size 150 i0 (.agg #[.int .i64 0]) 1 Tryz.underlying104 hi hz0 hz1 .i64 .i64 4096 4096 n rfl rfl E.out E.out ?b2 ?b3 (Nat.le_refl _) ?_)
    case b2 => rw [hz2]; omega
    case b3 => unfold maxLen; omega
    intro w1 hown hg
    obtain ⟨k1, k2, k3⟩ := KEY.out w1 hown hg
    clear hown hg
    go_wp2
    go_ret
    exact ⟨_, _, rfl, k1, k2, Nat.le_refl _, k3⟩
  · have E : Hid (room = (n : Int)) := Lib.hid (by rw [hn]; unfold clampA; rw [if_neg (by omega), if_neg (by omega)]; omega)
    clear hn
    go_enter Tryz.func32, Tryz.ntmps32
    go_wp2_with (refine wpList_make_full _ rfl (.tmp 5) (.tmp 5) 104 rfl w.heap.size 150 i0 (.agg #[.int .i64 0]) 1 Tryz.underlying104 hi hz0 hz1 .i64 .i64 room room n rfl rfl E.out E.out ?b2 ?b3 (Nat.le_refl _) ?_)
    case b2 => rw [hz2]; omega
    case b3 => unfold maxLen; omega
    intro w1 hown hg
    obtain ⟨k1, k2, k3⟩ := KEY.out w1 hown hg
    clear hown hg
    go_wp2
    go_ret
    exact ⟨_, _, rfl, k1, k2, Nat.le_refl _, k3⟩
  · have E : Hid ((0 : Int) = (n : Int)) := Lib.hid (by rw [hn]; unfold clampA; split <;> (try split) <;> omega)
    have h4 : room ≤ 4096 := by omega
    clear hn
    go_enter Tryz.func32, Tryz.ntmps32
    go_wp2_with (refine wpList_make_full _ rfl (.tmp 5) (.tmp 5) 104 rfl w.heap.size 150 i0 (.agg #[.int .i64 0]) 1 Tryz.underlying104 hi hz0 hz1 .i64 .i64 0 0 n rfl rfl E.out E.out ?b2 ?b3 (Nat.le_refl _) ?_)
    case b2 => rw [hz2]; omega
    case b3 => unfold maxLen; omega
    intro w1 hown hg
    obtain ⟨k1, k2, k3⟩ := KEY.out w1 hown hg
    clear hown hg
    go_wp2
    go_ret
    exact ⟨_, _, rfl, k1, k2, Nat.le_refl _, k3⟩

def takeA (s : Ar) (n : Int) : Ar × Int × Int :=
  if n < 0 then (s, (0 : Int), (1 : Int)) else if (s.room : Int) - s.W.length < n then (s, (0 : Int), (3 : Int)) else ({ s with W := s.W ++ List.replicate n.toNat 0 }, (s.W.length : Int) + 1, (0 : Int))
def TakeOk (w : World) (a g : Nat) (x : Ar × Int × Int) (e : Ending) (w' : World) : Prop := e = .returned (.tuple #[.int .i64 x.2.1, .int .i64 x.2.2]) ∧ ArIs w' a g x.1 ∧ Turns [a] w w'
set_option maxRecDepth 100000 in
set_option maxHeartbeats 1000000 in
theorem take_any {w : World} {a g : Nat} {s : Ar} (h : ArIs w a g s) (n : Int) :
    Calls Tryz.prog 111 #[.pointer (some ⟨a, 0, none⟩), .int .i64 n] w (TakeOk w a g (takeA s n)) := by
  have H := Lib.hid h
  have c0 := h.c0
  have c1 := h.c1
  have f1 := h.blk.free 1
  have hle := h.le
  have hro := h.room
  have hlt := h.blk.lt
  clear h
  by_cases h0 : n < 0
  · have e : takeA s n = (s, (0 : Int), (1 : Int)) := by unfold takeA; rw [if_pos h0]
    have HE := Lib.hid e
    clear e
    go_enter Tryz.func111, Tryz.ntmps111
    go_wp2
    go_ret2
    rw [HE.out]
    exact ⟨rfl, H.out, Turns.refl _ _⟩
  · by_cases h1 : (s.room : Int) - s.W.length < n
    · have e : takeA s n = (s, (0 : Int), (3 : Int)) := by unfold takeA; rw [if_neg h0, if_pos h1]
      have HE := Lib.hid e
      have x1 : IntKind.i64.wrap ((s.room : Int) - s.W.length) = (s.room : Int) - s.W.length := IntWalk.i64_in _ (by omega)
      clear e
      go_enter Tryz.func111, Tryz.ntmps111
      go_wp2
      go_quiet (fail)
      go_wp2
      go_ret2
      rw [HE.out]
      exact ⟨rfl, H.out.turns (S := []) ((Turns.refl _ _).drewN _) (by simp) (by simp), (Turns.refl _ _).drewN _⟩
    · have e : takeA s n = ({ s with W := s.W ++ List.replicate n.toNat 0 }, (s.W.length : Int) + 1, (0 : Int)) := by unfold takeA; rw [if_neg h0, if_neg h1]
      have HE := Lib.hid e
      have x1 : IntKind.i64.wrap ((s.room : Int) - s.W.length) = (s.room : Int) - s.W.length := IntWalk.i64_in _ (by omega)
      have h2 : n ≤ 4096 := by omega
      clear e
      go_enter Tryz.func111, Tryz.ntmps111
      go_wp2
      go_quiet (fail)
      clear x1
      go_wp2
      go_ret2
      rw [HE.out]
      obtain ⟨m, rfl⟩ := Int.eq_ofNat_of_zero_le (show 0 ≤ n by omega)
      have hb := (H.out.blk.drewN nq).set_ 1 (.int .i64 (s.W.length + m))
      have hw := (H.out.wds.drewN nq).far (p := ⟨a, 1, none⟩) H.out.ne.symm (.int .i64 (s.W.length + m))
      refine ⟨rfl, ⟨?_, ?_, H.out.ne, by simp; omega, hro, H.out.ops⟩, ((Turns.refl _ _).drewN _).setCell (.inl (by simp)) _⟩
      · have e : arCells g ({ s with W := s.W ++ List.replicate ((m : Int).toNat) 0 }) = (arCells g s).setIfInBounds 1 (.int .i64 (s.W.length + m)) := by
          unfold arCells; simp
        rw [e]; exact hb
      · have e : wdL { s with W := s.W ++ List.replicate ((m : Int).toNat) 0 } = wdL s := by
          unfold wdL
          congr 1
          rw [List.append_assoc, List.append_cancel_left_eq, List.replicate_append_replicate]
          congr 1
          simp; omega
        rw [e]; exact hw
end Go.Proofs.YtagajjilccjplaaGreat
end
section
set_option linter.unusedVariables false
set_option linter.unusedSimpArgs false
/- Layer 1: Add. -/
namespace Go.Proofs.YtagajjilccjplaaGreat
open Go.RowKit

theorem aadd (w : World) (b o : Nat) (x y : Int) (hc : w.cell? ⟨b, o, none⟩ = some (.int .i64 x)) (hz : w.frozen? ⟨b, o, none⟩ = false) :
    Calls Tryz.prog 261 #[.pointer (some ⟨b, o, none⟩), .int .i64 y] w fun e w' => e = .returned (.int .i64 (IntKind.i64.wrap (x + y))) ∧ w' = w.setCell ⟨b, o, none⟩ (.int .i64 (IntKind.i64.wrap (x + y))) := by
  obtain ⟨s, hs⟩ : ∃ s, s = IntKind.i64.wrap (x + y) := ⟨_, rfl⟩
  rw [← hs]
  have hl := run_call_add (P := Tryz.prog) Tryz.func263 (by kernel_rfl) (by kernel_rfl) (by kernel_rfl) .i64 (by kernel_rfl) (y := y) (s := s) hc hz (by rw [hs]; rfl)
  clear hs
  go_enter Tryz.func261, Tryz.ntmps261
  go_wp2
  go_ret
  exact ⟨rfl, rfl⟩
theorem add_any {w : World} {a g : Nat} {s : Ar} (h : ArIs w a g s) (x d : Int) (ho : s.ops + 1 ≤ 1000000000000) :
    Calls Tryz.prog 256 #[.pointer (some ⟨a, 0, none⟩), .int .i64 x, .int .i64 d] w (OpDone w a g (addA s x d) (.int .i64 (if inR s.W x then IntKind.i64.wrap (ldW s.W x + d) else 0))) := by
  have H := Lib.hid h
  cases hx : inR s.W x
  · have e : OpDone w a g (addA s x d) (.int .i64 (if false = true then IntKind.i64.wrap (ldW s.W x + d) else 0)) (.returned (.int .i64 0)) w := ⟨rfl, by unfold addA; rw [noteA_out s _ _ _ hx, wrA_out s _ _ hx]; exact h, Turns.refl _ _⟩
    have HX := Lib.hid hx
    clear h hx
    go_enter Tryz.func256, Tryz.ntmps256
    go_wp2_with fail
    refine (word_out H.out x HX.out).mono ?_
    rintro en w1 ⟨rfl, rfl⟩
    go_wp2
    go_ret
    exact e
  · have HX := Lib.hid hx
    have HE := Lib.hid (ldW_in hx)
    have h12 := inR_true.1 hx
    have hil : x.toNat - 1 < s.W.length := by omega
    clear h hx
    go_enter Tryz.func256, Tryz.ntmps256
    go_wp2_with fail
    refine (word_in H.out x HX.out).mono ?_
    rintro en w1 ⟨rfl, rfl⟩
    go_wp2_with fail
    refine (note_any H.out 5 x true HX.out ho).mono ?_
    rintro en w1 ⟨rfl, h1, t1⟩
    have hc := h1.word (i := x.toNat - 1) (by rw [noteA_W]; exact hil)
    rw [noteA_W, ← HE.out] at hc
    have hp := h1.put (x := x) (by rw [noteA_W]; exact HX.out) (IntKind.i64.wrap (ldW s.W x + d))
    have H1 := Lib.hid (And.intro hp t1)
    have HC := Lib.hid hc
    clear h1 t1 hp hc
    go_wp2_with fail
    refine (aadd _ _ _ _ _ HC.out.1 HC.out.2).mono ?_
    rintro en w2 ⟨rfl, rfl⟩
    obtain ⟨r, hr⟩ : ∃ r, r = IntKind.i64.wrap (ldW s.W x + d) := ⟨_, rfl⟩
    have hr2 : -9223372036854775808 ≤ r ∧ r ≤ 9223372036854775807 := by rw [hr, IntKind.wrap_i64]; omega
    obtain ⟨hr3, hr4⟩ := hr2
    rw [← hr]
    have HR := Lib.hid hr
    clear hr
    go_wp2
    go_ret
    exact ⟨by rw [HR.out]; rfl, by rw [HR.out]; exact H1.out.1.1, by rw [HR.out]; exact (turns_ag H1.out.2).trans H1.out.1.2⟩
end Go.Proofs.YtagajjilccjplaaGreat
end
section
set_option linter.unusedVariables false
set_option linter.unusedSimpArgs false
/- Spots in a block of their own. -/
namespace Go.Proofs.YtagajjilccjplaaGreat
open Go.RowKit

def encP4 (p : Sp) : List Value := [.int .i64 p.pc, .int .i64 p.a, .int .i64 p.b, .int .i64 p.c]
theorem encP4_len (p : Sp) : (encP4 p).length = 4 := rfl
theorem flatSet {α : Type} (enc : α → List Value) (sz : Nat) (hs : ∀ x, (enc x).length = sz) (l : List α) :
    ∀ k x x' j u, l[k]? = some x → j < sz → (enc x).set j u = enc x' → (l.flatMap enc).set (k * sz + j) u = (l.set k x').flatMap enc := by
  induction l with
  | nil => intro k x x' j u h; simp at h
  | cons a l ih =>
    intro k x x' j u h hj he
    cases k with
    | zero =>
      simp at h; subst h
      rw [List.set_cons_zero, List.flatMap_cons, List.flatMap_cons, List.set_append_left _ _ (by rw [hs]; omega)]
      simp [he]
    | succ k =>
      rw [List.set_cons_succ, List.flatMap_cons, List.flatMap_cons, List.set_append_right _ _ (by rw [hs, Nat.succ_mul]; omega), hs]
      have : (k + 1) * sz + j - sz = k * sz + j := by rw [Nat.succ_mul]; omega
      rw [this, ih k x x' j u (by simpa using h) hj he]
def spotV (p : Sp) : Value := .agg #[.int .i64 p.pc, .int .i64 p.a, .int .i64 p.b, .int .i64 p.c]
theorem field_pc (a b c d : Int) (w : World) : (Instr.field 145 (.agg #[.int .i64 a, .int .i64 b, .int .i64 c, .int .i64 d]) 0).run Tryz.prog w = .ok (.int .i64 a) w := by kernel_rfl
end Go.Proofs.YtagajjilccjplaaGreat
end
section
set_option linter.unusedVariables false
set_option linter.unusedSimpArgs false
/- Layers 15 to 20: how a flat lock of a kind lies in memory. -/
namespace Go.Proofs.YtagajjilccjplaaGreat
open Go.RowKit

/-- spots at the head of a block -/
def SpR (w : World) (q : Nat) (S : List Sp) : Prop := ∃ Z : List Value, Blk w q 145 (S.flatMap encP4 ++ Z).toArray
section
variable {w w' : World} {q : Nat} {S : List Sp}
theorem flat4_len (S : List Sp) : (S.flatMap encP4).length = S.length * 4 := by
  induction S with
  | nil => rfl
  | cons a l ih => rw [List.flatMap_cons, List.length_append, ih, encP4_len, List.length_cons]; omega
theorem SpR.cell (h : SpR w q S) {i : Nat} {p : Sp} (hp : S[i]? = some p) (j : Nat) (u : Value) (hu : (encP4 p)[j]? = some u) : w.cell? ⟨q, i * 4 + j, none⟩ = some u := by
  obtain ⟨Z, h⟩ := h
  rw [Blk.cell h]
  have h1 := getElem?_flatMap encP4 4 encP4_len S i p j u hp hu
  have h2 : i * 4 + j < (S.flatMap encP4).length := (List.getElem?_eq_some_iff.1 h1).1
  simp only [List.getElem?_toArray]
  rw [List.getElem?_append_left h2, h1]
theorem SpR.put (h : SpR w q S) {i : Nat} {p p' : Sp} (hp : S[i]? = some p) {j : Nat} {u : Value} (hj : j < 4) (he : (encP4 p).set j u = encP4 p') : SpR (w.setCell ⟨q, i * 4 + j, none⟩ u) q (S.set i p') := by
  obtain ⟨Z, h⟩ := h
  have h1 := Blk.set_ h (i * 4 + j) u
  have hi := (List.getElem?_eq_some_iff.1 hp).1
  refine ⟨Z, ?_⟩
  rw [List.setIfInBounds_toArray, List.set_append_left _ _ (by rw [flat4_len]; omega), flatSet encP4 4 encP4_len S i p p' j u hp hj he] at h1
  exact h1
theorem SpR.lt (h : SpR w q S) : q < w.heap.size := by obtain ⟨Z, h⟩ := h; exact Blk.lt h
theorem SpR.free (h : SpR w q S) (i : Nat) : w.frozen? ⟨q, i, none⟩ = false := by obtain ⟨Z, h⟩ := h; exact Blk.free h i
theorem SpR.turns {T : List Nat} (h : SpR w q S) (k : Turns T w w') (hq : q ∉ T) : SpR w' q S := by obtain ⟨Z, h⟩ := h; exact ⟨Z, k.blk h hq⟩
end
/-- where a flat lock lies: flat's own block, the kind's, the spots'; first word, how long or how many, slots, room -/
structure Fx where
  p : Nat
  l : Nat
  q : Nat
  k : Nat
  t : Nat
  m : Nat
  n : Nat
  cap : Nat
def lkT : Nat → TypeId
  | 1 => 309
  | 2 => 313
  | 3 => 315
  | 4 => 318
  | _ => 320
def lkC (k a : Nat) (x : Fx) : Array Value :=
  match k with
  | 1 => #[.pointer (some ⟨a, 0, none⟩), .int .i64 x.t, .int .i64 x.m, .slice (some ⟨x.q, 0, none⟩) x.n x.cap]
  | 2 => #[.slice (some ⟨x.q, 0, none⟩) x.n x.cap, .pointer (some ⟨a, 0, none⟩), .int .i64 x.t]
  | 3 => #[.pointer (some ⟨a, 0, none⟩), .int .i64 x.t, .int .i64 x.m, .slice (some ⟨x.q, 0, none⟩) x.n x.cap]
  | _ => #[.pointer (some ⟨a, 0, none⟩), .int .i64 x.t, .slice (some ⟨x.q, 0, none⟩) x.n x.cap]
structure KIs (w : World) (a g k : Nat) (x : Fx) (s : Ar) (S : List Sp) : Prop where
  ar : ArIs w a g s
  lk : Blk w x.l (lkT k) (lkC k a x)
  sp : SpR w x.q S
  n : S.length = x.n
  la : x.l ≠ a
  lg : x.l ≠ g
  lq : x.l ≠ x.q
  qa : x.q ≠ a
  qg : x.q ≠ g
  n32 : x.n ≤ 32
  t0 : 1 ≤ x.t
  t1 : x.t ≤ 5000
  m0 : 1 ≤ x.m
  m1 : x.m ≤ 4
  cap : x.n ≤ x.cap
section
variable {w w' : World} {a g k : Nat} {x : Fx} {s s' : Ar} {S S' : List Sp} {T : List Nat}
theorem KIs.turns (h : KIs w a g k x s S) (t : Turns T w w') (h1 : x.l ∉ T) (h2 : a ∉ T) (h3 : g ∉ T) (h4 : x.q ∉ T) : KIs w' a g k x s S :=
  { h with ar := h.ar.turns t h2 h3, lk := t.blk h.lk h1, sp := h.sp.turns t h4 }
theorem KIs.below (h : KIs w a g k x s S) (t : Below w.heap.size w w') : KIs w' a g k x s S :=
  h.turns (T := []) (Turns.of_below t) (by simp) (by simp) (by simp) (by simp)
theorem KIs.op (h : KIs w a g k x s S) (t : Turns [a, g] w w') (ha : ArIs w' a g s') : KIs w' a g k x s' S :=
  { h with ar := ha, lk := t.blk h.lk (by simp [h.la, h.lg]), sp := h.sp.turns t (by simp [h.qa, h.qg]) }
theorem KIs.spt (h : KIs w a g k x s S) (t : Turns [x.q] w w') (hs : SpR w' x.q S') (hn : S'.length = S.length) : KIs w' a g k x s S' :=
  { h with ar := h.ar.turns t (by simpa using fun e => h.qa e.symm) (by simpa using fun e => h.qg e.symm), lk := t.blk h.lk (by simpa using h.lq), sp := hs, n := hn.trans h.n }
theorem turns_q (q i : Nat) (u : Value) : Turns [q] w (w.setCell ⟨q, i, none⟩ u) := (Turns.refl _ _).setCell (.inl (by simp)) _
theorem KIs.put (h : KIs w a g k x s S) {i : Nat} {p p' : Sp} (hp : S[i]? = some p) {j : Nat} {u : Value} (hj : j < 4) (he : (encP4 p).set j u = encP4 p') : KIs (w.setCell ⟨x.q, i * 4 + j, none⟩ u) a g k x s (S.set i p') :=
  h.spt (turns_q _ _ _) (h.sp.put hp hj he) (by simp)
theorem KIs.put0 (h : KIs w a g k x s S) {i : Nat} {p p' : Sp} (hp : S[i]? = some p) {u : Value} (he : (encP4 p).set 0 u = encP4 p') : KIs (w.setCell ⟨x.q, i * 4, none⟩ u) a g k x s (S.set i p') :=
  h.put hp (j := 0) (by decide) he
theorem setS_set (S : List Sp) (i : Nat) (p q : Sp) : (S.set i p).set i q = S.set i q := by simp
theorem getS_set {S : List Sp} {i : Nat} {p : Sp} (h : S[i]? = some p) (q : Sp) : (S.set i q)[i]? = some q := by
  have := (List.getElem?_eq_some_iff.1 h).1
  simp [this]
theorem setS_id {S : List Sp} {i : Nat} {p : Sp} (hp : S[i]? = some p) : S.set i p = S := by
  apply List.ext_getElem?
  intro j
  rw [List.getElem?_set]
  by_cases e : i = j
  · subst e
    have := (List.getElem?_eq_some_iff.1 hp).1
    rw [if_pos rfl, if_pos this, hp]
  · rw [if_neg e]
end
end Go.Proofs.YtagajjilccjplaaGreat
end
section
set_option linter.unusedVariables false
set_option linter.unusedSimpArgs false
/- Layers 15 to 20: a new flat lock of any kind: it comes to be, and the arena has some words more. (written by wip/gen_fk.py) -/
namespace Go.Proofs.YtagajjilccjplaaGreat
open Go.RowKit

def takeS (s : Ar) (n : Nat) : Ar := { s with W := s.W ++ List.replicate n 0 }
theorem takeY {w : World} {a g : Nat} {s : Ar} (h : ArIs w a g s) (n : Nat) (hn : s.W.length + n ≤ s.room) :
    Calls Tryz.prog 111 #[.pointer (some ⟨a, 0, none⟩), .int .i64 n] w fun e w' => e = .returned (.tuple #[.int .i64 ((s.W.length : Int) + 1), .int .i64 0]) ∧ ArIs w' a g (takeS s n) ∧ Turns [a] w w' := by
  refine (take_any h n).mono ?_
  have e : takeA s n = (takeS s n, (s.W.length : Int) + 1, (0 : Int)) := by
    unfold takeA
    rw [if_neg (by omega), if_neg (by omega), Int.toNat_natCast]; rfl
  rw [e]
  rintro en w' ⟨h1, h2, h3⟩
  exact ⟨h1, h2, h3⟩
theorem cells_newF (w : World) (xs : List Value) (t : TypeId) : ∀ j u, xs[j]? = some u → (w.alloc (.cells xs.toArray t)).cell? ((⟨w.heap.size, 0, none⟩ : Addr).add j) = some u := by
  intro j u hj
  have k := Blk.new w t xs.toArray
  have c := k.cell j
  have e : (⟨w.heap.size, 0, none⟩ : Addr).add j = ⟨w.heap.size, j, none⟩ := by
    simp [Addr.add]
    exact fun h => h.symm
  rw [e, c]
  simpa using hj
theorem Tryz.infoSpF : (Tryz.prog.info? 145).map (fun i => (i.zero, i.size, i.bytes)) = some (some (.agg #[.int .i64 0, .int .i64 0, .int .i64 0, .int .i64 0]), 4, 32) := by kernel_rfl
theorem placeF {w : World} {l : Nat} {va vs : Value} (nx : Nat) (m : Nat) (hm : 1 ≤ m) (hx : nx ≤ 100000) (h : Blk w l 315 #[va, .int .i64 nx, .int .i64 m, vs]) :
    Calls Tryz.prog 145 #[.pointer (some ⟨l, 0, none⟩), .int .i64 0] w fun e w' => e = .returned (.int .i64 ((nx : Int) + 1)) ∧ Below w.heap.size w w' := by
  have c1 : w.cell? ⟨l, 1, none⟩ = some (.int .i64 nx) := h.cell 1
  have c2 : w.cell? ⟨l, 2, none⟩ = some (.int .i64 m) := h.cell 2
  have t1 : ¬ (m : Int) = 0 := by omega
  have t2 : ((m : Int) == 0) = false := by simpa using t1
  have x1 : IntKind.i64.wrap ((nx : Int) + 1) = (nx : Int) + 1 := IntWalk.i64_in _ (by omega)
  clear h
  go_enter Tryz.func145, Tryz.ntmps145
  go_wp2_with fail
  go_quiet (fail)
  go_wp2
  go_ret
  exact ⟨rfl, below_drewN (Below.refl _ _) _⟩
theorem mayF (w : World) (n : Nat) (h1 : 1 ≤ n) (h2 : n ≤ 32) : Calls Tryz.prog 143 #[.int .i64 n] w fun e w' => e = .returned (.bool true) ∧ w = w' := by
  have t1 : (1 : Int) ≤ n := by omega
  have t2 : (n : Int) ≤ 32 := by omega
  go_enter Tryz.func143, Tryz.ntmps143
  go_wp2
  go_ret
  exact ⟨rfl, rfl⟩
end Go.Proofs.YtagajjilccjplaaGreat
end
section
set_option linter.unusedVariables false
set_option linter.unusedSimpArgs false
/- Layers 15 to 18: a new flat lock (tas, ticket, mcs), exactly. (written by wip/gen_fn.py) -/
namespace Go.Proofs.YtagajjilccjplaaGreat
open Go.RowKit

theorem fmade_const4 (u : Value) (n : Nat) : (madeCells #[u, u, u, u] n).toList = List.replicate n u := by
  unfold madeCells
  rw [Array.toList_map, Array.toList_range]
  refine List.ext_getElem? fun i => ?_
  rw [List.getElem?_map, List.getElem?_replicate]
  by_cases h : i < n
  · rw [List.getElem?_range h, if_pos h]
    have : i % 4 = 0 ∨ i % 4 = 1 ∨ i % 4 = 2 ∨ i % 4 = 3 := by omega
    rcases this with e | e | e | e <;> simp [e]
  · rw [if_neg h]; simp; omega
theorem fflat_zero (n : Nat) : (List.replicate n Sp.zero).flatMap encP4 = List.replicate (n * 4) (.int .i64 0) := by
  induction n with
  | zero => rfl
  | succ n ih => rw [List.replicate_succ, List.flatMap_cons, ih, show (n + 1) * 4 = 4 + n * 4 by omega, ← List.replicate_append_replicate]; rfl
/-- spots that were made -/
theorem spr_made {w : World} {base q n : Nat} (h : w.ownsRow base 145 4 (.slice (some ⟨q, 0, none⟩) n n) n (madeCells #[Value.int .i64 0, .int .i64 0, .int .i64 0, .int .i64 0] (n * 4)).toList) : SpR w q (List.replicate n Sp.zero) := by
  have := own_blk h
  refine ⟨[], ?_⟩
  rw [List.append_nil, fflat_zero]
  have e : (madeCells #[Value.int .i64 0, .int .i64 0, .int .i64 0, .int .i64 0] (n * 4)).toList = List.replicate (n * 4) (.int .i64 0) := fmade_const4 _ _
  rw [e] at this
  exact this
/-- how many words a lock takes; the arena after it came to be; its spots -/
def szK (k n m : Nat) : Nat := if k = 1 then 1 else if k = 2 then 2 else if k = 3 then 1 + m else if k = 4 then 1 + 2 * n else n + 2
def newAr_ (k : Nat) (s : Ar) (n m : Nat) : Ar :=
  if k = 3 then storeA (takeS s (szK k n m)) ((s.W.length : Int) + 2) 1 else if k = 5 then storeA (takeS s (szK k n m)) ((s.W.length : Int) + 1) ((n : Int) + 1) else takeS s (szK k n m)
def newSpK (k n : Nat) : List Sp := if k = 5 then (List.range n).map fun (i : Nat) => (⟨0, (i : Int) + 1, 0, 0⟩ : Sp) else List.replicate n Sp.zero
/-- a new lock, exactly -/
def NewX (w : World) (a g k : Nat) (s : Ar) (n m : Nat) (e : Ending) (w' : World) : Prop :=
  ∃ x : Fx, e = .returned (.tuple #[.pointer (some ⟨x.l, 0, none⟩), .int .i64 0]) ∧ KIs w' a g k x (newAr_ k s n m) (newSpK k n) ∧ (w.heap.size ≤ x.l ∧ w.heap.size ≤ x.q ∧ x.n = n ∧ x.m = m ∧ x.t = s.W.length + 1 ∧ x.k = k) ∧ Turns [a, g] w w'
set_option maxRecDepth 100000 in
set_option maxHeartbeats 1000000 in
theorem ticketNewX {w : World} {a g : Nat} {s : Ar} (h : ArIs w a g s) (n : Nat) (h1 : 1 ≤ n) (h2 : n ≤ 32) (m : Nat) (hm1 : 1 ≤ m) (hm2 : m ≤ 4) (hr : s.W.length + (2) ≤ s.room) :
    Calls Tryz.prog 124 #[.pointer (some ⟨a, 0, none⟩), .int .i64 n] w (NewX w a g 2 s n m) := by
  obtain ⟨i0, hi, hz0, hz1, hz2⟩ := info_parts Tryz.infoSpF
  have HT := Lib.hid (takeY h (2) hr)
  have t1 : ¬ (n : Int) < 1 := by omega
  have t2 : ¬ 32 < (n : Int) := by omega
  have HR := Lib.hid (And.intro hr h.room)
  have HG := Lib.hid (And.intro h.blk.lt h.wds.lt)
  clear h hr
  go_enter Tryz.func124, Tryz.ntmps124
  go_wp2_with fail
  refine HT.out.mono ?_
  rintro en w1 ⟨rfl, k1, t1'⟩
  have H1 := Lib.hid (And.intro k1 t1')
  clear k1 t1' HT
  go_wp2_with (refine wpList_make_full _ rfl _ _ 213 rfl w1.heap.size 145 i0 (.agg #[.int .i64 0, .int .i64 0, .int .i64 0, .int .i64 0]) 4 Tryz.underlying213 hi hz0 hz1 .i64 .i64 n n n rfl rfl rfl rfl ?b2 ?b3 (Nat.le_refl _) ?_)
  case b2 => rw [hz2]; omega
  case b3 => unfold maxLen; omega
  intro w2 hown hg
  have t2' : Turns [] w1 w2 := Turns.of_below ((Below.refl w1.heap.size w1).grown hg (Nat.le_refl _) (fun j hj => by cases hj))
  have H2 := Lib.hid t2'
  have HS := Lib.hid (spr_made hown)
  clear hown hg t2'
  go_wp2
  go_ret2
  have k2 := H1.out.1.turns H2.out (by simp) (by simp)
  have s1 := H1.out.2.size
  have s2 := H2.out.size
  have hq := HS.out.lt
  have hgg := HG.out
  have hrr := HR.out
  have tA : Turns [] w2 (w2.alloc (.cells (lkC 2 a ⟨0, w2.heap.size, w1.heap.size, 2, s.W.length + 1, m, n, n⟩) (lkT 2))) := (Turns.refl _ _).alloc _
  have hb := Blk.new w2 (lkT 2) (lkC 2 a ⟨0, w2.heap.size, w1.heap.size, 2, s.W.length + 1, m, n, n⟩)
  refine ⟨⟨0, w2.heap.size, w1.heap.size, 2, s.W.length + 1, m, n, n⟩, rfl, ?_, ⟨by show w.heap.size ≤ w2.heap.size; omega, by show w.heap.size ≤ w1.heap.size; omega, rfl, rfl, rfl, rfl⟩, ((H1.out.2.mono (by simp)).trans (H2.out.mono (by simp))).alloc _⟩
  exact ⟨k2.turns tA (by simp) (by simp), hb, HS.out.turns tA (by simp), by show (List.replicate n Sp.zero).length = n; simp, by show w2.heap.size ≠ a; omega, by show w2.heap.size ≠ g; omega, by show w2.heap.size ≠ w1.heap.size; omega, by show w1.heap.size ≠ a; omega, by show w1.heap.size ≠ g; omega, h2, by show 1 ≤ s.W.length + 1; omega, by show s.W.length + 1 ≤ 5000; omega, hm1, hm2, Nat.le_refl _⟩
set_option maxRecDepth 100000 in
set_option maxHeartbeats 1000000 in
theorem mcsNewX {w : World} {a g : Nat} {s : Ar} (h : ArIs w a g s) (n : Nat) (h1 : 1 ≤ n) (h2 : n ≤ 32) (m : Nat) (hm1 : 1 ≤ m) (hm2 : m ≤ 4) (hr : s.W.length + (1 + 2 * n) ≤ s.room) :
    Calls Tryz.prog 126 #[.pointer (some ⟨a, 0, none⟩), .int .i64 n] w (NewX w a g 4 s n m) := by
  obtain ⟨i0, hi, hz0, hz1, hz2⟩ := info_parts Tryz.infoSpF
  have HT := Lib.hid (takeY h (1 + 2 * n) hr)
  have t1 : ¬ (n : Int) < 1 := by omega
  have t2 : ¬ 32 < (n : Int) := by omega
  have HR := Lib.hid (And.intro hr h.room)
  have HG := Lib.hid (And.intro h.blk.lt h.wds.lt)
  have x1 : IntKind.i64.wrap (2 * (n : Int)) = 2 * (n : Int) := IntWalk.i64_in _ (by omega)
  have x2 : IntKind.i64.wrap (1 + 2 * (n : Int)) = ((1 + 2 * n : Nat) : Int) := by rw [IntWalk.i64_in _ (by omega)]; omega
  clear h hr
  go_enter Tryz.func126, Tryz.ntmps126
  go_wp2_with fail
  refine HT.out.mono ?_
  rintro en w1 ⟨rfl, k1, t1'⟩
  have H1 := Lib.hid (And.intro k1 t1')
  clear k1 t1' HT
  go_wp2_with (refine wpList_make_full _ rfl _ _ 213 rfl w1.heap.size 145 i0 (.agg #[.int .i64 0, .int .i64 0, .int .i64 0, .int .i64 0]) 4 Tryz.underlying213 hi hz0 hz1 .i64 .i64 n n n rfl rfl rfl rfl ?b2 ?b3 (Nat.le_refl _) ?_)
  case b2 => rw [hz2]; omega
  case b3 => unfold maxLen; omega
  intro w2 hown hg
  have t2' : Turns [] w1 w2 := Turns.of_below ((Below.refl w1.heap.size w1).grown hg (Nat.le_refl _) (fun j hj => by cases hj))
  have H2 := Lib.hid t2'
  have HS := Lib.hid (spr_made hown)
  clear hown hg t2'
  go_wp2
  go_ret2
  have k2 := H1.out.1.turns H2.out (by simp) (by simp)
  have s1 := H1.out.2.size
  have s2 := H2.out.size
  have hq := HS.out.lt
  have hgg := HG.out
  have hrr := HR.out
  have tA : Turns [] w2 (w2.alloc (.cells (lkC 4 a ⟨0, w2.heap.size, w1.heap.size, 4, s.W.length + 1, m, n, n⟩) (lkT 4))) := (Turns.refl _ _).alloc _
  have hb := Blk.new w2 (lkT 4) (lkC 4 a ⟨0, w2.heap.size, w1.heap.size, 4, s.W.length + 1, m, n, n⟩)
  refine ⟨⟨0, w2.heap.size, w1.heap.size, 4, s.W.length + 1, m, n, n⟩, rfl, ?_, ⟨by show w.heap.size ≤ w2.heap.size; omega, by show w.heap.size ≤ w1.heap.size; omega, rfl, rfl, rfl, rfl⟩, ((H1.out.2.mono (by simp)).trans (H2.out.mono (by simp))).alloc _⟩
  exact ⟨k2.turns tA (by simp) (by simp), hb, HS.out.turns tA (by simp), by show (List.replicate n Sp.zero).length = n; simp, by show w2.heap.size ≠ a; omega, by show w2.heap.size ≠ g; omega, by show w2.heap.size ≠ w1.heap.size; omega, by show w1.heap.size ≠ a; omega, by show w1.heap.size ≠ g; omega, h2, by show 1 ≤ s.W.length + 1; omega, by show s.W.length + 1 ≤ 5000; omega, hm1, hm2, Nat.le_refl _⟩
set_option maxRecDepth 100000 in
set_option maxHeartbeats 1000000 in
theorem tasNewX {w : World} {a g : Nat} {s : Ar} (h : ArIs w a g s) (n : Nat) (h1 : 1 ≤ n) (h2 : n ≤ 32) (m : Nat) (hm1 : 1 ≤ m) (hm2 : m ≤ 4) (hr : s.W.length + (1) ≤ s.room) :
    Calls Tryz.prog 123 #[.pointer (some ⟨a, 0, none⟩), .int .i64 n, .int .i64 m] w (NewX w a g 1 s n m) := by
  obtain ⟨i0, hi, hz0, hz1, hz2⟩ := info_parts Tryz.infoSpF
  have HT := Lib.hid (takeY h (1) hr)
  have t1 : ¬ (n : Int) < 1 := by omega
  have t2 : ¬ 32 < (n : Int) := by omega
  have HR := Lib.hid (And.intro hr h.room)
  have HG := Lib.hid (And.intro h.blk.lt h.wds.lt)
  have t3 : ¬ (m : Int) < 1 := by omega
  have t4 : ¬ 1024 < (m : Int) := by omega
  clear h hr
  go_enter Tryz.func123, Tryz.ntmps123
  go_wp2_with fail
  refine HT.out.mono ?_
  rintro en w1 ⟨rfl, k1, t1'⟩
  have H1 := Lib.hid (And.intro k1 t1')
  clear k1 t1' HT
  go_wp2_with (refine wpList_make_full _ rfl _ _ 213 rfl w1.heap.size 145 i0 (.agg #[.int .i64 0, .int .i64 0, .int .i64 0, .int .i64 0]) 4 Tryz.underlying213 hi hz0 hz1 .i64 .i64 n n n rfl rfl rfl rfl ?b2 ?b3 (Nat.le_refl _) ?_)
  case b2 => rw [hz2]; omega
  case b3 => unfold maxLen; omega
  intro w2 hown hg
  have t2' : Turns [] w1 w2 := Turns.of_below ((Below.refl w1.heap.size w1).grown hg (Nat.le_refl _) (fun j hj => by cases hj))
  have H2 := Lib.hid t2'
  have HS := Lib.hid (spr_made hown)
  clear hown hg t2'
  go_wp2
  go_ret2
  have k2 := H1.out.1.turns H2.out (by simp) (by simp)
  have s1 := H1.out.2.size
  have s2 := H2.out.size
  have hq := HS.out.lt
  have hgg := HG.out
  have hrr := HR.out
  have tA : Turns [] w2 (w2.alloc (.cells (lkC 1 a ⟨0, w2.heap.size, w1.heap.size, 1, s.W.length + 1, m, n, n⟩) (lkT 1))) := (Turns.refl _ _).alloc _
  have hb := Blk.new w2 (lkT 1) (lkC 1 a ⟨0, w2.heap.size, w1.heap.size, 1, s.W.length + 1, m, n, n⟩)
  refine ⟨⟨0, w2.heap.size, w1.heap.size, 1, s.W.length + 1, m, n, n⟩, rfl, ?_, ⟨by show w.heap.size ≤ w2.heap.size; omega, by show w.heap.size ≤ w1.heap.size; omega, rfl, rfl, rfl, rfl⟩, ((H1.out.2.mono (by simp)).trans (H2.out.mono (by simp))).alloc _⟩
  exact ⟨k2.turns tA (by simp) (by simp), hb, HS.out.turns tA (by simp), by show (List.replicate n Sp.zero).length = n; simp, by show w2.heap.size ≠ a; omega, by show w2.heap.size ≠ g; omega, by show w2.heap.size ≠ w1.heap.size; omega, by show w1.heap.size ≠ a; omega, by show w1.heap.size ≠ g; omega, h2, by show 1 ≤ s.W.length + 1; omega, by show s.W.length + 1 ≤ 5000; omega, hm1, hm2, Nat.le_refl _⟩
end Go.Proofs.YtagajjilccjplaaGreat
end
section
set_option linter.unusedVariables false
set_option linter.unusedSimpArgs false
/- Layers 17 and 19: a new flat lock (parted, clh), exactly. (printed by gen_fn3.py out of XFk1) -/
namespace Go.Proofs.YtagajjilccjplaaGreat
open Go.RowKit

/-- a slice's block, whatever its room -/
theorem own_blkZ {w : World} {base : Nat} {e : TypeId} {sz n : Nat} {v : Value} {xs : List Value} (h : w.ownsRow base e sz v n xs) (hn : 1 ≤ n) : ∃ q cap, v = .slice (some ⟨q, 0, none⟩) n cap ∧ n ≤ cap ∧ base ≤ q ∧ ∃ Z : List Value, Blk w q e (xs ++ Z).toArray := by
  rcases h.2 with ⟨_, h0⟩ | ⟨q, cap, cur, rfl, hb, hq, hnc, hcm, hcs, ht⟩
  · omega
  · refine ⟨q, cap, rfl, hnc, hb, cur.toList.drop (n * sz), ?_⟩
    rw [← ht, List.take_append_drop, Array.toArray_toList]
    exact hq
theorem newSp5_len (k : Nat) : (newSpK 5 k).length = k := by
  unfold newSpK
  simp
theorem clh_snoc (k : Nat) : (newSpK 5 (k + 1)).flatMap encP4 = (newSpK 5 k).flatMap encP4 ++ [.int .i64 0, .int .i64 ((k : Int) + 1), .int .i64 0, .int .i64 0] := by
  unfold newSpK
  rw [if_pos rfl, if_pos rfl, List.range_succ, List.map_append, List.flatMap_append]
  rfl
set_option maxRecDepth 100000 in
set_option maxHeartbeats 1000000 in
theorem partedNewX {w : World} {a g : Nat} {s : Ar} (h : ArIs w a g s) (n : Nat) (h1 : 1 ≤ n) (h2 : n ≤ 32) (m : Nat) (hm1 : 1 ≤ m) (hm2 : m ≤ 4) (hr : s.W.length + (1 + m) ≤ s.room) (ho : s.ops + 1 ≤ 1000000000000) :
    Calls Tryz.prog 125 #[.pointer (some ⟨a, 0, none⟩), .int .i64 n, .int .i64 m] w (NewX w a g 3 s n m) := by
  obtain ⟨i0, hi, hz0, hz1, hz2⟩ := info_parts Tryz.infoSpF
  have HT := Lib.hid (takeY h (1 + m) hr)
  have x1 : IntKind.i64.wrap (1 + (m : Int)) = ((1 + m : Nat) : Int) := by rw [IntWalk.i64_in _ (by omega)]; omega
  have hlen : s.W.length ≤ 4096 := by have := h.le; have := h.room; omega
  have ha0 := h.blk.lt
  have hg0 := h.wds.lt
  have HO := Lib.hid ho
  clear h hr ho
  go_enter Tryz.func125, Tryz.ntmps125
  go_wp2_with fail
  refine (mayF _ n h1 h2).mono ?_
  rintro en w0 ⟨rfl, rfl⟩
  go_wp2_with fail
  refine (mayF _ m hm1 (by omega)).mono ?_
  rintro en w0 ⟨rfl, rfl⟩
  go_wp2_with fail
  refine HT.out.mono ?_
  rintro en w1 ⟨rfl, k1, t1'⟩
  have H1 := Lib.hid (And.intro k1 t1')
  clear k1 t1' HT
  go_wp2_with (refine wpList_make_full _ rfl _ _ 213 rfl w1.heap.size 145 i0 (.agg #[.int .i64 0, .int .i64 0, .int .i64 0, .int .i64 0]) 4 Tryz.underlying213 hi hz0 hz1 .i64 .i64 n n n rfl rfl rfl rfl ?b2 ?b3 (Nat.le_refl _) ?_)
  case b2 => rw [hz2]; omega
  case b3 => unfold maxLen; omega
  intro w2 hown hg
  have t2' : Turns [] w1 w2 := Turns.of_below ((Below.refl w1.heap.size w1).grown hg (Nat.le_refl _) (fun j hj => by cases hj))
  have H2 := Lib.hid t2'
  have HSP := Lib.hid (spr_made hown)
  clear hown hg t2'
  go_upto_region 7 with fail
  obtain ⟨l, hl⟩ : ∃ l, l = w2.heap.size := ⟨_, rfl⟩
  obtain ⟨nx, hnx⟩ : ∃ x : Nat, x = s.W.length + 1 := ⟨_, rfl⟩
  have hnx2 : ((s.W.length : Int) + 1) = (nx : Int) := by omega
  obtain ⟨w3, hw3⟩ : ∃ W, W = w2.alloc (.cells #[.pointer (some ⟨a, 0, none⟩), .int .i64 nx, .int .i64 m, .slice (some ⟨w1.heap.size, 0, none⟩) n n] 315) := ⟨_, rfl⟩
  rw [hnx2, ← hw3, ← hl]
  have HB := Lib.hid (show Blk w3 l 315 #[.pointer (some ⟨a, 0, none⟩), .int .i64 nx, .int .i64 m, .slice (some ⟨w1.heap.size, 0, none⟩) n n] from by rw [hw3, hl]; exact Blk.new _ _ _)
  have HT3 := Lib.hid (show Turns [a] w w3 from by rw [hw3]; exact (H1.out.2.trans (H2.out.mono (by simp))).alloc _)
  have HA3 := Lib.hid (show ArIs w3 a g (takeS s (1 + m)) from by rw [hw3]; exact (H1.out.1.turns H2.out (by simp) (by simp)).turns (S := []) ((Turns.refl _ _).alloc _) (by simp) (by simp))
  have HSP3 := Lib.hid (show SpR w3 w1.heap.size (List.replicate n Sp.zero) from by rw [hw3]; exact HSP.out.turns ((Turns.refl [] _).alloc _) (by simp))
  have HL := Lib.hid (show w.heap.size ≤ l ∧ nx = s.W.length + 1 ∧ w1.heap.size < l ∧ w.heap.size ≤ w1.heap.size from by have := H1.out.2.size; have := H2.out.size; have := HSP.out.lt; omega)
  clear hl hw3 hnx hnx2
  go_wp2_with fail
  refine (placeF nx m hm1 (by have := HL.out.2.1; omega) HB.out).mono ?_
  rintro en w4 ⟨rfl, b4⟩
  have HA4 := Lib.hid (And.intro (HA3.out.turns (Turns.of_below (S := []) b4) (by simp) (by simp)) b4)
  clear b4
  go_wp2_with fail
  refine (store_any HA4.out.1 ((nx : Int) + 1) 1 (by show s.ops + 1 ≤ _; have := HO.out; omega)).mono ?_
  rintro en w5 ⟨rfl, k5, t5⟩
  have H5 := Lib.hid (And.intro k5 t5)
  clear k5 t5
  go_wp2
  go_ret2
  have s3 := HT3.out.size
  have s4 := HA4.out.2.size
  have s5 := H5.out.2.size
  have hb := HB.out.lt
  have hL := HL.out
  have e3 : ((nx : Int) + 1) = (s.W.length : Int) + 2 := by omega
  have tt : Turns [a, g] w3 w5 := (Turns.of_below HA4.out.2).trans H5.out.2
  have ka := H5.out.1
  rw [e3] at ka
  refine ⟨⟨0, l, w1.heap.size, 3, nx, m, n, n⟩, rfl, ?_, ⟨by show w.heap.size ≤ l; omega, by show w.heap.size ≤ w1.heap.size; omega, rfl, rfl, hL.2.1, rfl⟩, (HT3.out.mono (by simp)).trans tt⟩
  exact ⟨ka, tt.blk HB.out (by simp; omega), HSP3.out.turns tt (by simp; omega), by show (List.replicate n Sp.zero).length = n; simp, by show l ≠ a; omega, by show l ≠ g; omega, by show l ≠ w1.heap.size; omega, by show w1.heap.size ≠ a; omega, by show w1.heap.size ≠ g; omega, h2, by show 1 ≤ nx; omega, by show nx ≤ 5000; omega, hm1, hm2, Nat.le_refl _⟩
set_option maxRecDepth 100000 in
set_option maxHeartbeats 2000000 in
theorem clhNewX {w : World} {a g : Nat} {s : Ar} (h : ArIs w a g s) (n : Nat) (h1 : 1 ≤ n) (h2 : n ≤ 32) (m : Nat) (hm1 : 1 ≤ m) (hm2 : m ≤ 4) (hr : s.W.length + (n + 2) ≤ s.room) (ho : s.ops + 1 ≤ 1000000000000) :
    Calls Tryz.prog 127 #[.pointer (some ⟨a, 0, none⟩), .int .i64 n] w (NewX w a g 5 s n m) := by
  obtain ⟨i0, hi, hz0, hz1, hz2⟩ := info_parts Tryz.infoSpF
  have HI := Lib.hid (And.intro hi (And.intro hz0 (And.intro hz1 hz2)))
  have HT := Lib.hid (takeY h (n + 2) hr)
  have t1 : ¬ (n : Int) < 1 := by omega
  have t2 : ¬ 32 < (n : Int) := by omega
  have x1 : IntKind.i64.wrap ((n : Int) + 2) = ((n + 2 : Nat) : Int) := by rw [IntWalk.i64_in _ (by omega)]; omega
  have x2 : IntKind.i64.wrap ((n : Int) + 1) = ((n + 1 : Nat) : Int) := by rw [IntWalk.i64_in _ (by omega)]; omega
  have hlen : s.W.length ≤ 4096 := by have := h.le; have := h.room; omega
  have HG := Lib.hid (And.intro h.blk.lt h.wds.lt)
  have HO := Lib.hid ho
  clear h hr ho hi hz0 hz1 hz2
  go_enter Tryz.func127, Tryz.ntmps127
  go_wp2_with fail
  refine HT.out.mono ?_
  rintro en w1 ⟨rfl, k1, t1'⟩
  have H1 := Lib.hid (And.intro k1 t1')
  clear k1 t1' HT
  go_upto_region 7 with fail
  obtain ⟨l, hl⟩ : ∃ l, l = w1.heap.size := ⟨_, rfl⟩
  obtain ⟨nx, hnx⟩ : ∃ x : Nat, x = s.W.length + 1 := ⟨_, rfl⟩
  have hnx2 : ((s.W.length : Int) + 1) = (nx : Int) := by omega
  obtain ⟨w3, hw3⟩ : ∃ W, W = w1.alloc (.cells #[.pointer (some ⟨a, 0, none⟩), .int .i64 nx, .slice none 0 0] 320) := ⟨_, rfl⟩
  rw [hnx2, ← hw3, ← hl]
  have HB := Lib.hid (show Blk w3 l 320 #[.pointer (some ⟨a, 0, none⟩), .int .i64 nx, .slice none 0 0] from by rw [hw3, hl]; exact Blk.new _ _ _)
  have HT3 := Lib.hid (show Turns [a] w w3 from by rw [hw3]; exact H1.out.2.alloc _)
  have HA3 := Lib.hid (show ArIs w3 a g (takeS s (n + 2)) from by rw [hw3]; exact H1.out.1.turns (S := []) ((Turns.refl _ _).alloc _) (by simp) (by simp))
  have HL := Lib.hid (show w.heap.size ≤ l ∧ nx = s.W.length + 1 ∧ w3.heap.size = l + 1 from by have := H1.out.2.size; rw [hw3]; simp; omega)
  clear hl hw3 hnx hnx2
  go_wp2
  go_loopw [31] (fun i wr => ∃ (k : Nat) (v : Value), i = .int .i64 k ∧ k ≤ n ∧ Blk wr l 320 #[.pointer (some ⟨a, 0, none⟩), .int .i64 nx, v] ∧ wr.ownsRow w3.heap.size 145 4 v k ((newSpK 5 k).flatMap encP4) ∧ Turns [l] w3 wr) (fun i _ => n - (intOf i).toNat)
  case atStart => exact ⟨0, _, rfl, by omega, HB.out, World.ownsRow_nil _ _ _ _, Turns.refl _ _⟩
  case round =>
    obtain ⟨k, v, rfl, hk, hb, hown, ht⟩ := hrel
    have HXS := Lib.hid (clh_snoc k)
    obtain ⟨xs, hxs⟩ : ∃ l, l = (newSpK 5 k).flatMap encP4 := ⟨_, rfl⟩
    rw [← hxs] at hown HXS
    have HXE := Lib.hid hxs
    clear hxs
    obtain ⟨wo, rfl⟩ : ∃ wo : World, wo = wr := ⟨_, rfl⟩
    by_cases hlt : k < n
    · obtain ⟨A, cap, rfl⟩ := own_form hown
      have c2 : wo.cell? ⟨l, 2, none⟩ = some (.slice A k cap) := hb.cell 2
      have hll := hb.lt
      have hs3 := ht.size
      have H := Lib.hid (And.intro hb (And.intro hown ht))
      have hlow : (Value.slice A k cap).ownBlock ≠ some l := fun e => by have := (hown.lt l e).1; have := HL.out.2.2; omega
      clear hb hown ht
      go_wp2_with (at_builtin; refine wpList_append_lies _ rfl _ _ 213 rfl w3.heap.size 145 i0 (.agg #[.int .i64 0, .int .i64 0, .int .i64 0, .int .i64 0]) 4 32 Tryz.underlying213 HI.out.1 HI.out.2.1 HI.out.2.2.1 HI.out.2.2.2 rfl (by decide) _ _ _ rfl (H.out.2.1.alloc _) ⟨wo.heap.size, 0, none⟩ 1 1 [.int .i64 0, .int .i64 ((k : Int) + 1), .int .i64 0, .int .i64 0] rfl rfl (cells_newF _ _ _) (by simp [Value.oneCell']) (by decide) ?c3 ?c4 ?c5 _ rfl ?_)
      case c3 => unfold maxLen; omega
      case c4 => omega
      case c5 => simp; omega
      intro g3 cap3 w7 h3 hg3 hl3 hlt3
      have bl7 := (H.out.1.alloc (.cells #[.int .i64 0, .int .i64 ((k : Int) + 1), .int .i64 0, .int .i64 0] 145)).grown hg3 (fun e => hlow e.symm)
      have c27 : w7.cell? ⟨l, 2, none⟩ = some (.slice A k cap) := bl7.cell 2
      have z27 := bl7.free 2
      have ts : Turns [l] w7 (w7.setCell ⟨l, 2, none⟩ (.slice (some ⟨g3, 0, none⟩) (k + 1) cap3)) := (Turns.refl _ _).setCell (.inl (by simp)) _
      have HRR := Lib.hid (show Blk (w7.setCell ⟨l, 2, none⟩ (.slice (some ⟨g3, 0, none⟩) (k + 1) cap3)) l 320 #[.pointer (some ⟨a, 0, none⟩), .int .i64 nx, .slice (some ⟨g3, 0, none⟩) (k + 1) cap3] ∧ (w7.setCell ⟨l, 2, none⟩ (.slice (some ⟨g3, 0, none⟩) (k + 1) cap3)).ownsRow w3.heap.size 145 4 (.slice (some ⟨g3, 0, none⟩) (k + 1) cap3) (k + 1) (xs ++ [.int .i64 0, .int .i64 ((k : Int) + 1), .int .i64 0, .int .i64 0]) ∧ Turns [l] w3 (w7.setCell ⟨l, 2, none⟩ (.slice (some ⟨g3, 0, none⟩) (k + 1) cap3)) from by
        have hg35 := (h3.lt g3 rfl).1
        have hl3' := HL.out.2.2
        refine ⟨bl7.set_ 2 _, Turns.own h3 ts (fun x hx => by injection hx with hx; subst hx; simp; omega), ?_⟩
        have t37 : Turns [l] w3 w7 := ⟨hg3.os.trans H.out.2.2.os, hg3.tape.trans H.out.2.2.tape, hg3.output.trans H.out.2.2.output, by have := hg3.size; simp at this; omega, fun i hi hn => by
          have h9 := hg3.block i (by simp; omega) (fun e => by have := (H.out.2.1.lt i e.symm).1; omega)
          rw [h9]
          have h8 := ((Turns.refl [l] wo).alloc (.cells #[.int .i64 0, .int .i64 ((k : Int) + 1), .int .i64 0, .int .i64 0] 145)).block i (by omega) hn
          rw [h8]
          exact H.out.2.2.block i hi hn⟩
        exact t37.trans ts)
      clear h3 hg3 hl3 bl7 H
      go_wp2
      go_roundw
      case rel => exact ⟨k + 1, _, by go_num, by omega, HRR.out.1, by rw [HXS.out]; exact HRR.out.2.1, HRR.out.2.2⟩
      case measure => simp [intOf]; omega
    · obtain rfl : k = n := by omega
      obtain ⟨q, cap, rfl, hcap, hql, Z, hZ⟩ := own_blkZ hown h1
      have H := Lib.hid (And.intro hb ht)
      have HZ := Lib.hid (show SpR wo q (newSpK 5 k) from ⟨Z, by rw [← HXE.out]; exact hZ⟩)
      clear hb hown ht hZ
      have HA4 := Lib.hid (HA3.out.turns H.out.2 (by have := HG.out; have := HL.out; simp; omega) (by have := HG.out; have := HL.out; simp; omega))
      go_wp2_with fail
      refine (store_any HA4.out (nx : Int) ((k + 1 : Nat) : Int) (by show s.ops + 1 ≤ _; have := HO.out; omega)).mono ?_
      rintro en w5 ⟨rfl, k5, t5⟩
      have H5 := Lib.hid (And.intro k5 t5)
      clear k5 t5
      go_wp2
      go_ret2
      have s3 := HT3.out.size
      have s5 := H5.out.2.size
      have hb := H.out.1.lt
      have s6 := H.out.2.size
      have hL := HL.out
      have hG := HG.out
      have e3 : (nx : Int) = (s.W.length : Int) + 1 := by omega
      have ka := H5.out.1
      rw [e3, show (((k + 1 : Nat) : Nat) : Int) = (k : Int) + 1 by omega] at ka
      have t9 : Turns [a, g, l] w w5 := ((HT3.out.mono (by simp)).trans (H.out.2.mono (by simp))).trans (H5.out.2.mono (by simp))
      refine ⟨⟨0, l, q, 5, nx, m, k, cap⟩, rfl, ?_, ⟨by show w.heap.size ≤ l; omega, by show w.heap.size ≤ q; omega, rfl, rfl, hL.2.1, rfl⟩, t9.fresh fun i hi => by simp at hi ⊢; omega⟩
      exact ⟨ka, H5.out.2.blk H.out.1 (by simp; omega), HZ.out.turns H5.out.2 (by simp; omega), newSp5_len k, by show l ≠ a; omega, by show l ≠ g; omega, by show l ≠ q; omega, by show q ≠ a; omega, by show q ≠ g; omega, h2, by show 1 ≤ nx; omega, by show nx ≤ 5000; omega, hm1, hm2, hcap⟩
end Go.Proofs.YtagajjilccjplaaGreat
end
