/- Joined: Fp4, Fp9, Xq1, Xq2, Xq3. -/
import Derived.WalkKit
import Derived.WalkSpells
import Derived.ProofKit
import Derived.Below
import Derived.Laws.StructEq
import Derived.Test.YtagajjilccjplaaGreatMgFamilyPasses13
import Derived.Test.YtagajjilccjplaaGreatMgFamilyPasses14
section
set_option linter.unusedVariables false
set_option linter.unusedSimpArgs false
/- FamilyPasses, plain: the stays of the script's trace, who passes whom, and the automaton along it. No program in sight. -/
namespace Go.Proofs.YtagajjilccjplaaGreat
open Go Go.RowKit

/-! ### Stays -/
def tfold : List Stay → Nat → List Ev → List Stay
  | out, _, [] => out
  | out, k, e :: es => tfold (tstep out k e) (k + 1) es
theorem tfold_append : ∀ (a b : List Ev) (out : List Stay) (k : Nat), tfold out k (a ++ b) = tfold (tfold out k a) (k + a.length) b
  | [], b, out, k => rfl
  | e :: a, b, out, k => by
    show tfold (tstep out k e) (k + 1) (a ++ b) = tfold (tfold (tstep out k e) (k + 1) a) (k + (a.length + 1)) b
    rw [tfold_append a b, show k + 1 + a.length = k + (a.length + 1) by omega]
theorem tallyTo_fold (l : List Ev) : ∀ (es : List Ev) (k : Nat), l.drop k = es → tallyTo l (k + es.length) = tfold (tallyTo l k) k es
  | [], k, h => rfl
  | e :: es, k, h => by
    have h0 : l[k]? = some e := by
      have h1 : (l.drop k)[0]? = some e := by rw [h]; rfl
      rwa [List.getElem?_drop, Nat.add_zero] at h1
    have h2 : l.drop (k + 1) = es := by rw [← List.drop_drop, h]; rfl
    have := tallyTo_fold l es (k + 1) h2
    show tallyTo l (k + (es.length + 1)) = tfold (tstep (tallyTo l k) k e) (k + 1) es
    rw [show k + (es.length + 1) = k + 1 + es.length by omega, this]
    congr 1
    show (match l[k]? with | some e => tstep (tallyTo l k) k e | none => tallyTo l k) = _
    rw [h0]
theorem tallyL_fold (l : List Ev) : tallyL l = tfold [] 0 l := by
  have := tallyTo_fold l l 0 rfl
  rw [Nat.zero_add] at this
  exact this
theorem openOf_first {s : Stay} {rs : List Stay} (h : s.thread = 0 ∧ s.rest < 0) : openOf (s :: rs) 0 = some 0 := by
  unfold openOf
  rw [List.findIdx?_cons]
  have : actS 0 s = true := by unfold actS; exact decide_eq_true h
  rw [this]; rfl
def Q1 (out : List Stay) : Prop := ∀ s ∈ out, s.thread = 1 → ¬ s.rest < 0
theorem openOf_no {out : List Stay} (h : Q1 out) : openOf out 1 = none := by
  refine openOf_none fun i s hi ht hr => ?_
  exact h s (List.mem_of_getElem? hi) ht hr
theorem openOf_last {out : List Stay} {s : Stay} (h : Q1 out) (ht : s.thread = 1) (hr : s.rest < 0) : openOf (out ++ [s]) 1 = some out.length := by
  unfold openOf
  rw [List.findIdx?_append]
  have h0 := openOf_no h
  unfold openOf at h0
  have : actS 1 s = true := by unfold actS; exact decide_eq_true ⟨ht, hr⟩
  rw [h0, List.findIdx?_cons, this]
  simp
theorem step_last {out : List Stay} {s : Stay} (h : Q1 out) (ht : s.thread = 1) (hr : s.rest < 0) (k : Int) (e : Ev) (he : e.thread = 1) : tstep (out ++ [s]) k e = out ++ [noteS s k e] := by
  unfold tstep
  rw [he, openOf_last h ht hr]
  simp
theorem note0 {s : Stay} {k : Int} {e : Ev} (he : e.kind = 0) : noteS s k e = s := by
  unfold noteS
  rw [if_neg (by rw [he]; omega), if_neg (by rw [he]; omega), if_neg (by rw [he]; omega)]
theorem none_last {out : List Stay} {s : Stay} (h : Q1 out) (ht : s.thread = 1) (hr : s.rest < 0) : ∀ (n k : Nat), tfold (out ++ [s]) k (List.replicate n n1E) = out ++ [s]
  | 0, k => rfl
  | n + 1, k => by
    rw [List.replicate_succ]
    show tfold (tstep (out ++ [s]) k n1E) (k + 1) _ = _
    rw [step_last h ht hr k n1E rfl, note0 rfl]
    exact none_last h ht hr n (k + 1)
theorem round_fold {out : List Stay} (h : Q1 out) (k o : Nat) : ∃ s : Stay, tfold out k (roundE o) = out ++ [s] ∧ s.thread = 1 ∧ ¬ s.rest < 0 := by
  unfold roundE
  show ∃ s : Stay, tfold (tstep out k ⟨1, 1, false, 0⟩) (k + 1) _ = _ ∧ _
  have e0 : tstep out k ⟨1, 1, false, 0⟩ = out ++ [newS k ⟨1, 1, false, 0⟩] := by
    unfold tstep
    rw [openOf_no h]; rfl
  rw [e0, tfold_append, none_last h rfl (show (-1 : Int) < 0 by decide)]
  show ∃ s : Stay, tfold (tstep (tstep (out ++ [newS k ⟨1, 1, false, 0⟩]) _ ⟨2, 1, false, 1⟩) _ ⟨3, 1, false, 0⟩) _ _ = _ ∧ _
  rw [step_last h rfl (show (-1 : Int) < 0 by decide) _ _ rfl, step_last h (by rfl) (by simp [noteS, newS]) _ _ rfl, tfold_append]
  generalize hk : k + 1 + (List.replicate 6 n1E).length = k6
  have hs : (noteS (noteS (newS k ⟨1, 1, false, 0⟩) (k6 : Nat) ⟨2, 1, false, 1⟩) ((k6 + 1 : Nat) : Int) ⟨3, 1, false, 0⟩) = ⟨1, false, k, (k6 : Nat), ((k6 + 1 : Nat) : Int), -1, 1⟩ := by
    have h1 : (noteS (newS k ⟨1, 1, false, 0⟩) (k6 : Nat) ⟨2, 1, false, 1⟩) = ⟨1, false, k, (k6 : Nat), -1, -1, 1⟩ := by simp [noteS, newS]
    rw [h1]
    unfold noteS
    rw [if_neg (by simp), if_pos (by first | (simp; done) | (simp; omega))]
  rw [hs, none_last h rfl (show (-1 : Int) < 0 by decide)]
  show ∃ s : Stay, tstep _ _ ⟨4, 1, false, 0⟩ = _ ∧ _
  rw [step_last h rfl (show (-1 : Int) < 0 by decide) _ _ rfl]
  refine ⟨_, rfl, ?_⟩
  unfold noteS
  rw [if_neg (by simp), if_neg (by simp), if_pos (by simp; omega)]
  exact ⟨rfl, by simp only; omega⟩
def s0S : Stay := ⟨0, false, 0, -1, -1, -1, 0⟩
theorem part_fold (o : Nat) : ∀ m : Nat, ∃ rs : List Stay, tfold [] 0 (partE o m) = s0S :: rs ∧ rs.length = m ∧ ∀ s ∈ rs, s.thread = 1 ∧ ¬ s.rest < 0
  | 0 => ⟨[], rfl, rfl, fun s hs => by cases hs⟩
  | m + 1 => by
    obtain ⟨rs, h1, h2, h3⟩ := part_fold o m
    rw [partE_succ, tfold_append, h1]
    obtain ⟨s, k1, k2⟩ := round_fold (out := s0S :: rs) (fun s hs ht => by
      rcases List.mem_cons.1 hs with rfl | hs
      · exact absurd ht (by decide)
      · exact (h3 s hs).2) (0 + (partE o m).length) o
    refine ⟨rs ++ [s], k1, by simp [h2], fun q hq => ?_⟩
    rcases List.mem_append.1 hq with hq | hq
    · exact h3 q hq
    · rw [List.mem_singleton.1 hq]; exact k2
theorem step_first {rs : List Stay} {s : Stay} (h : s.thread = 0 ∧ s.rest < 0) (k : Int) (e : Ev) (he : e.thread = 0) : tstep (s :: rs) k e = noteS s k e :: rs := by
  unfold tstep
  rw [he, openOf_first h]
  simp
theorem tally45 (o m : Nat) : ∃ (rs : List Stay) (z : Int), tallyL (evsL o m) = ⟨0, false, 0, ((evsL o m).length - 1 : Nat), -1, -1, 1⟩ :: rs ∧ rs.length = m ∧ z = 0 := by
  obtain ⟨rs, h1, h2, h3⟩ := part_fold o m
  refine ⟨rs, 0, ?_, h2, rfl⟩
  rw [tallyL_fold]
  unfold evsL
  rw [tfold_append, h1]
  have h0 : s0S.thread = 0 ∧ s0S.rest < 0 := by decide
  show tstep (tstep (tstep (tstep (s0S :: rs) _ n0E) _ n0E) _ n0E) _ ⟨2, 0, false, 1⟩ = _
  rw [step_first h0 _ _ rfl, note0 rfl, step_first h0 _ _ rfl, note0 rfl, step_first h0 _ _ rfl, note0 rfl, step_first h0 _ _ rfl]
  congr 1
  rw [List.length_append]
  unfold noteS
  rw [if_pos (by decide)]
  show (⟨0, false, 0, ((0 + (partE o m).length + 1 + 1 + 1 : Nat) : Int), -1, -1, 1⟩ : Stay) = _
  congr 1
  show ((0 + (partE o m).length + 1 + 1 + 1 : Nat) : Int) = (((partE o m).length + 4 - 1 : Nat) : Int)
  omega
/-! ### Who passes -/
def oth (t : Int) (e : Ev) : Bool := decide (e.kind = 2 ∧ ¬ e.thread = t)
theorem from_count (ns : List Int) (t b : Int) (l : List Ev) (h : ∀ (j : Nat) e, l[j]? = some e → oth t e = true → (0 : Int) < j ∧ (j : Int) < b ∧ ¬ nodeOf ns e.thread = nodeOf ns t) :
    ∀ k : Nat, k ≤ l.length → fromTo ns t 0 b l k = (0, ((l.take k).countP (oth t) : Int))
  | 0, _ => rfl
  | k + 1, hk => by
    obtain ⟨e, he⟩ := getElem?_lt (show k < l.length by omega)
    rw [fromTo_succ ns t 0 b l k e he, from_count ns t b l h k (by omega), List.take_add_one, he]
    simp only [Option.toList_some, List.countP_append, List.countP_cons, List.countP_nil]
    by_cases ho : oth t e = true
    · obtain ⟨h1, h2, h3⟩ := h k e he ho
      have ho' : e.kind = 2 ∧ ¬ e.thread = t := of_decide_eq_true ho
      rw [if_pos ⟨h1, h2⟩, ho]
      unfold cntE
      rw [if_pos ho', if_neg h3]
      simp
    · have ho' : ¬ (e.kind = 2 ∧ ¬ e.thread = t) := fun q => ho (decide_eq_true q)
      have hf : oth t e = false := by simpa using ho
      rw [hf]
      unfold cntE
      rw [if_neg ho']
      simp
theorem round_count (o : Nat) : (roundE o).countP (oth 0) = 1 := by
  unfold roundE
  simp [List.countP_append, List.countP_replicate, oth, n1E]
theorem part_count (o : Nat) : ∀ m : Nat, (partE o m).countP (oth 0) = m
  | 0 => by show (headE ++ []).countP (oth 0) = 0; decide
  | m + 1 => by rw [partE_succ, List.countP_append, part_count o m, round_count]
theorem evs_count (o m : Nat) : (evsL o m).countP (oth 0) = m := by
  unfold evsL
  rw [List.countP_append, part_count]
  have : tailE.countP (oth 0) = 0 := by decide
  omega
theorem evs_first (o m : Nat) : (evsL o m)[0]? = some ⟨1, 0, false, 0⟩ := rfl
theorem evs_last (o m : Nat) : (evsL o m)[(evsL o m).length - 1]? = some ⟨2, 0, false, 1⟩ := by
  have hl : (evsL o m).length = (partE o m).length + 4 := by unfold evsL; rw [List.length_append]; rfl
  rw [hl]
  unfold evsL
  rw [List.getElem?_append_right (by omega), show (partE o m).length + 4 - 1 - (partE o m).length = 3 by omega]
  rfl
theorem mem_round {o : Nat} {e : Ev} (h : e ∈ roundE o) : e.thread = 1 := by
  unfold roundE at h
  simp only [List.mem_cons, List.mem_append, List.mem_replicate, List.not_mem_nil, or_false] at h
  rcases h with rfl | ⟨_, rfl⟩ | rfl | rfl | ⟨_, rfl⟩ | rfl <;> rfl
theorem mem_evs {o m : Nat} {e : Ev} (h : e ∈ evsL o m) : e.thread = 0 ∨ e.thread = 1 := by
  unfold evsL partE at h
  rcases List.mem_append.1 h with h | h
  · rcases List.mem_append.1 h with h | h
    · left
      simp only [headE, n0E, List.mem_cons, List.not_mem_nil, or_false] at h
      rcases h with rfl | rfl | rfl | rfl <;> rfl
    · obtain ⟨l, hl, hp⟩ := List.mem_flatten.1 h
      rw [(List.mem_replicate.1 hl).2] at hp
      exact .inr (mem_round hp)
  · left
    simp only [tailE, n0E, List.mem_cons, List.not_mem_nil, or_false] at h
    rcases h with rfl | rfl | rfl | rfl <;> rfl
theorem evs_wf (o m : Nat) : ∀ e ∈ evsL o m, wfE e := by
  intro e he
  unfold wfE
  rcases mem_evs he with h | h <;> rw [h] <;> decide
theorem pass45 (o m : Nat) : (passL [0, 1] (evsL o m)).length = 1 + m ∧ (passL [0, 1] (evsL o m))[0]? = some (0, (m : Int)) := by
  obtain ⟨rs, _, h1, h2, _⟩ := tally45 o m
  have hl : (evsL o m).length = (partE o m).length + 4 := by unfold evsL; rw [List.length_append]; rfl
  unfold passL
  rw [h1]
  refine ⟨by simp [h2]; omega, ?_⟩
  simp only [List.map_cons, List.getElem?_cons_zero, Option.some.injEq]
  unfold passOf endS
  rw [if_neg (by simp only; omega)]
  show fromTo [0, 1] 0 0 (((evsL o m).length - 1 : Nat) : Int) (evsL o m) (evsL o m).length = _
  rw [from_count [0, 1] 0 _ (evsL o m) (fun j e hj ho => ?_) _ (Nat.le_refl _), List.take_length, evs_count]
  have ho' : e.kind = 2 ∧ ¬ e.thread = 0 := of_decide_eq_true ho
  have hm := mem_evs (List.mem_of_getElem? hj)
  have e1 : e.thread = 1 := by rcases hm with h | h <;> omega
  have hj0 : j ≠ 0 := by
    rintro rfl
    rw [evs_first] at hj
    injection hj with hj
    rw [← hj] at ho'
    exact absurd ho'.1 (by decide)
  have hj1 : j ≠ (evsL o m).length - 1 := by
    rintro rfl
    rw [evs_last] at hj
    injection hj with hj
    rw [← hj] at e1
    exact absurd e1 (by decide)
  have hlt := (List.getElem?_eq_some_iff.1 hj).1
  refine ⟨by omega, by omega, ?_⟩
  rw [e1]
  decide
/-! ### The automaton -/
/-- what two threads are at, behind an event -/
def shN (x : Int × Int) (e : Ev) : Int × Int :=
  if e.kind = 0 then x else if e.thread = 0 then (if e.kind = 4 then 0 else e.kind, x.2) else (x.1, if e.kind = 4 then 0 else e.kind)
/-- what comes at what -/
def combos : List ((Int × Int) × Ev) := [((0, 0), ⟨1, 0, false, 0⟩), ((1, 0), n0E), ((1, 0), n1E), ((1, 0), ⟨1, 1, false, 0⟩), ((1, 1), n1E), ((1, 1), ⟨2, 1, false, 1⟩), ((1, 2), ⟨3, 1, false, 0⟩), ((1, 3), n1E), ((1, 3), ⟨4, 1, false, 0⟩), ((1, 0), ⟨2, 0, false, 1⟩)]
def chkA : Int × Int → List Ev → Option (Int × Int)
  | x, [] => some x
  | x, e :: es => if (x, e) ∈ combos then chkA (shN x e) es else none
theorem chkA_append : ∀ (a b : List Ev) (x y : Int × Int), chkA x a = some y → chkA x (a ++ b) = chkA y b
  | [], b, x, y, h => by injection h with h; subst h; rfl
  | e :: a, b, x, y, h => by
    unfold chkA at h
    show (if (x, e) ∈ combos then chkA (shN x e) (a ++ b) else none) = _
    split at h
    · rename_i hm
      rw [if_pos hm]
      exact chkA_append a b _ _ h
    · cases h
theorem chkA_at : ∀ (l : List Ev) (x y : Int × Int), chkA x l = some y → ∀ (k : Nat) (e : Ev), l[k]? = some e → ((l.take k).foldl shN x, e) ∈ combos
  | [], _, _, _, k, e, h => by simp at h
  | q :: l, x, y, h, 0, e, hk => by
    simp only [List.getElem?_cons_zero, Option.some.injEq] at hk
    subst hk
    unfold chkA at h
    split at h
    · rename_i hm; exact hm
    · cases h
  | q :: l, x, y, h, k + 1, e, hk => by
    unfold chkA at h
    split at h
    · exact chkA_at l _ y h k e (by simpa using hk)
    · cases h
theorem chkA_part (o : Nat) (ho : o = 5 ∨ o = 6) : ∀ m : Nat, chkA (0, 0) (partE o m) = some (1, 0)
  | 0 => by show chkA (0, 0) (headE ++ []) = some (1, 0); decide
  | m + 1 => by
    rw [partE_succ, chkA_append _ _ _ _ (chkA_part o ho m)]
    rcases ho with rfl | rfl <;> decide
theorem chkA_evs (o m : Nat) (ho : o = 5 ∨ o = 6) : chkA (0, 0) (evsL o m) = some (2, 0) := by
  unfold evsL
  rw [chkA_append _ _ _ _ (chkA_part o ho m)]
  decide
theorem outN_56 (b : Int) : outN b = 5 ∨ outN b = 6 := by
  unfold outN
  split
  · exact .inr rfl
  · exact .inl rfl
end Go.Proofs.YtagajjilccjplaaGreat
end
section
set_option linter.unusedVariables false
set_option linter.unusedSimpArgs false
/- FamilyPasses: world.World over a lock of kind cohort: Play of the family's script. -/
namespace Go.Proofs.YtagajjilccjplaaGreat
open Go Go.RowKit Go.Maps

theorem Tryz.infoEvt : (Tryz.prog.info? 62).map (fun i => (i.zero, i.size, i.bytes)) = some (some (.agg #[.int .i64 0, .int .i64 0, .bool false, .int .i64 0]), 4, 32) := by kernel_rfl
theorem evt_cells (w : World) (e : Ev) {g : Nat} (hg : g = w.heap.size) : ∀ j u, (encE e)[j]? = some u → (w.alloc (.cells #[.int .i64 e.kind, .int .i64 e.thread, .bool e.read, .int .i64 e.count] 62)).cell? ((⟨g, 0, none⟩ : Addr).add j) = some u := by
  intro j u hu
  subst hg
  have hadd : (⟨w.heap.size, 0, none⟩ : Addr).add j = ⟨w.heap.size, j, none⟩ := by unfold Addr.add; split <;> simp_all
  rw [hadd, cell_of_row (w.alloc _) w.heap.size j _ _ (0, 0) (heap_alloc_new w _)]
  simpa [encE] using hu
section
variable {B : Nat → Prop} {w w' : World} {a g wb lb tb M : Nat} {x : Cox} {c : CoC} {P T : List Int} {st st' : Co} {S : List Nat} {row : Option Nat}
theorem Turns.grownRow {w0 : World} (h : Turns S w0 w) (hg : w.grownBy w' row) (hr : ∀ j, row = some j → w0.heap.size ≤ j) : Turns S w0 w' :=
  ⟨hg.os.trans h.os, hg.tape.trans h.tape, hg.output.trans h.output, Nat.le_trans h.size hg.size, fun i hi hn => (hg.block i (Nat.lt_of_lt_of_le hi h.size) (by intro e; have := hr i e.symm; omega)).trans (h.block i hi hn)⟩
theorem WlIs.grown (h : WlIs B w a g wb lb tb M x c P T st) (hg : w.grownBy w' row) (hr : ∀ j, row = some j → M ≤ j) : WlIs B w' a g wb lb tb M x c P T st := by
  cases row with
  | none => exact h.far (S := []) ⟨hg.os, hg.tape, hg.output, hg.size, fun i hi _ => hg.block i hi (by simp)⟩ (by simp)
  | some r => exact h.far (S := [r]) (Turns.grown hg) (fun i hi => by simp at hi; subst hi; exact hr _ rfl)
set_option maxRecDepth 100000 in
set_option maxHeartbeats 4000000 in
theorem playW {b : Int} {m n bl off cap : Nat} (h : WlIs B w a g wb lb tb M x (c45 b) P45 T45 st45) (hx : x.n = 2 ∧ x.N = 2) (hm : m ≤ 1000) (hn : (scriptL b m).length = n) (hn4 : n ≤ 4000)
    (hrd : ∀ W, Turns (CoS a g x) w W → ∀ (k : Nat) (pk : Int × Int), (scriptL b m)[k]? = some pk → W.cell? ⟨bl, off + k * 2, none⟩ = some (.int .i64 pk.1) ∧ W.cell? ⟨bl, off + k * 2 + 1, none⟩ = some (.int .i64 pk.2)) :
    Calls Tryz.prog 10 #[wbP wb, .slice (some ⟨bl, off, none⟩) n cap] w fun e w' => ∃ v, e = .returned v ∧ RdL w' v 4 encE (evsL (outN b) m) ∧ (∀ q, v.ownBlock = some q → w.heap.size ≤ q) ∧ WlIs B w' a g wb lb tb M x (c45 b) P45 T45 (runD (c45 b) st45 (scriptL b m) n) ∧ Turns (CoS a g x) w w' := by
  obtain ⟨i0, hi, hz0, hz1, hz2⟩ := info_parts Tryz.infoEvt
  have HI := Lib.hid (And.intro hi (And.intro hz0 (And.intro hz1 hz2)))
  have HLO := Lib.hid (show ∀ r ∈ CoS a g x, r < w.heap.size from h.co.lts)
  have HM := Lib.hid (show M ≤ w.heap.size from h.hM)
  have H0 := Lib.hid h
  have HRD := Lib.hid hrd
  have HX := Lib.hid hx
  have HEV := Lib.hid (fun (k : Nat) (pk : Int × Int) (hp : (scriptL b m)[k]? = some pk) => runD_ev b m hm hp)
  have HEL := Lib.hid (show (evsL (outN b) m).length = n by rw [evsL_len b m hm, hn])
  have HOK := Lib.hid (fun k (hk : k ≤ n) => ok_runS b m k (by rw [hn]; exact hk) (by omega))
  have HSL := Lib.hid hn
  have HPK := Lib.hid (fun (k : Nat) (pk : Int × Int) (hp : (scriptL b m)[k]? = some pk) => script_pk b m hp)
  have HSU := Lib.hid (fun (k : Nat) (pk : Int × Int) (hp : (scriptL b m)[k]? = some pk) => runD_succ (c45 b) st45 hp)
  have HW0 := Lib.hid (w45 b)
  obtain ⟨L, hL⟩ : ∃ L, L = scriptL b m := ⟨_, rfl⟩
  rw [← hL] at HRD HEV HOK HSL HPK HSU ⊢
  obtain ⟨E, hE⟩ : ∃ E, E = evsL (outN b) m := ⟨_, rfl⟩
  rw [← hE] at HEV HEL ⊢
  clear h hrd hx hi hz0 hz1 hz2 hn hL hE hm
  unfold wbP
  go_enter Tryz.func10, Tryz.ntmps10
  go_wp2
  go_loopw [5, 7, 10] (fun o _ i wr => ∃ k : Nat, i = .int .i64 k ∧ k ≤ n ∧ WlIs B wr a g wb lb tb M x (c45 b) P45 T45 (runD (c45 b) st45 L k) ∧ Turns (CoS a g x) w wr ∧ wr.ownsRow w.heap.size 62 4 o k ((E.take k).flatMap encE)) (fun _ _ i _ => n - (intOf i).toNat)
  case atStart => exact ⟨0, rfl, by omega, H0.out, Turns.refl _ _, World.ownsRow_nil _ _ _ _⟩
  case round =>
    obtain ⟨k, rfl, hk, hwl, ht, hown⟩ := hrel
    obtain ⟨wo, rfl⟩ : ∃ wo : World, wo = wr := ⟨_, rfl⟩
    have hsz := ht.size
    by_cases hlt : k < n
    · obtain ⟨pk, hp⟩ := getElem?_lt (show k < L.length by rw [HSL.out]; exact hlt)
      obtain ⟨c0, c1⟩ := HRD.out wo ht k pk hp
      have hev := HEV.out k pk hp
      have hpk := HPK.out k pk hp
      have hsu := HSU.out k pk hp
      have hok := HOK.out k (by omega)
      obtain ⟨t, u⟩ := pk
      simp only at hpk c0 c1
      obtain ⟨tn, hte⟩ : ∃ tn : Nat, t = (tn : Int) ∧ tn < 2 := ⟨t.toNat, by omega, by omega⟩
      obtain ⟨rfl, htn⟩ := hte
      have htx : tn < x.n := by rw [HX.out.1]; exact htn
      have hpre : CoPre (40 + 2 * (k : Int)) x (c45 b) (runD (c45 b) st45 L k) := by
        have e := HX.out
        rw [← e.1] at hok
        have w0' : CoW0 (c45 b) x.n x.N st45.s.W.length := by rw [e.1, e.2]; exact HW0.out
        exact hok.pre w0' hwl.co.fx (by omega) (by omega) (by omega)
      have hb1 := (Below.refl wo.heap.size wo).alloc (Nat.le_refl _) (.cells #[.int .i64 tn, .int .i64 u] 53)
      have HD := Lib.hid (doW (hwl.below hb1) hpre tn htx u hpk.2)
      have HT1 := Lib.hid (ht.trans (Turns.of_below (S := CoS a g x) hb1))
      have HO1 := Lib.hid (hown.alloc (.cells #[.int .i64 tn, .int .i64 u] 53))
      obtain ⟨A5, c5, rfl⟩ := own_form hown
      rw [hsu] at hev
      obtain ⟨ev, he⟩ : ∃ ev, ev = evW (runD (c45 b) st45 L k).T ((tn : Int), u) (actD (c45 b) (runD (c45 b) st45 L k) ((tn : Int), u)).T := ⟨_, rfl⟩
      rw [← he] at HD hev
      have HEVK := Lib.hid (show (E.take (k + 1)).flatMap encE = (E.take k).flatMap encE ++ encE ev by rw [take_succ_of hev, List.flatMap_append]; simp)
      have HSUC := Lib.hid hsu
      unfold wbP evV at HD
      clear hp hev hpk hok hpre hb1 ht hwl hsu he hown
      go_wp2_with fail
      refine HD.out.mono ?_
      rintro en w2 ⟨rfl, k2, t2⟩
      have hs2 := t2.size
      have HO2 := Lib.hid (Turns.own HO1.out t2 (fun q hq hm => by have := (HO1.out.lt q hq).1; have := HLO.out q hm; omega))
      have HK2 := Lib.hid (And.intro k2 (HT1.out.trans t2))
      have hs02 := (HT1.out.trans t2).size
      clear k2 t2
      go_wp2_with (at_builtin; refine wpList_append_own _ rfl _ _ 40 rfl w.heap.size 62 i0 (.agg #[.int .i64 0, .int .i64 0, .bool false, .int .i64 0]) 4 32 Tryz.underlying40 HI.out.1 HI.out.2.1 HI.out.2.2.1 HI.out.2.2.2 rfl (by decide) _ _ _ rfl (HO2.out.alloc _) ⟨w2.heap.size, 0, none⟩ 1 1 (encE ev) rfl rfl (evt_cells w2 ev rfl) (encE_one _) ?c3 ?c4 ?c5 ?_)
      case c3 => unfold maxLen; omega
      case c4 => omega
      case c5 => simp; omega
      intro v' w3 h3 hg3 _
      have HF := Lib.hid (show WlIs B w3 a g wb lb tb M x (c45 b) P45 T45 (runD (c45 b) st45 L (k + 1)) ∧ Turns (CoS a g x) w w3 ∧ w3.ownsRow w.heap.size 62 4 v' (k + 1) ((E.take (k + 1)).flatMap encE) from by
        rw [HSUC.out, HEVK.out]
        refine ⟨(HK2.out.1.below ((Below.refl _ _).alloc (Nat.le_refl _) _)).grown hg3 (fun j hj => Nat.le_trans HM.out (HO2.out.lt j hj).1), (HK2.out.2.alloc _).grownRow hg3 (fun j hj => (HO2.out.lt j hj).1), h3⟩)
      clear h3 hg3
      go_wp2
      go_roundw
      case rel => exact ⟨k + 1, by go_num, by omega, HF.out.1, HF.out.2.1, HF.out.2.2⟩
      case measure => simp [intOf]; omega
    · obtain rfl : k = n := by omega
      have HF := Lib.hid (And.intro hwl (And.intro ht hown))
      clear hwl ht hown
      go_wp2
      go_ret
      have e : E.take k = E := by rw [← HEL.out, List.take_length]
      have ho := HF.out.2.2
      rw [e] at ho
      exact ⟨_, rfl, RdL.of_own encE_len HEL.out.symm (by rw [HEL.out]; omega) ho, fun q hq => (ho.lt q hq).1, HF.out.1, HF.out.2.1⟩
end
end Go.Proofs.YtagajjilccjplaaGreat
end
section
set_option linter.unusedVariables false
set_option linter.unusedSimpArgs false
/- Running closed code: plain data that stands for values and memory, by names in the place of blocks; what it means for such data to be what a world holds. No program in sight. -/
namespace Go.Proofs.YtagajjilccjplaaGreat
open Go.RowKit

/-! ### A tree of numbers -/
inductive Tr (α : Type) where
  | nil
  | nd (x : Option α) (l r : Tr α)
namespace Tr
variable {α : Type}
def get : Tr α → Nat → Option α
  | nil, _ => none
  | nd x l r, k => bif Nat.beq k 0 then x else bif Nat.beq (k % 2) 1 then l.get (k / 2) else r.get (k / 2 - 1)
def single : Nat → Nat → α → Tr α
  | 0, _, v => nd (some v) nil nil
  | f + 1, k, v => bif Nat.beq k 0 then nd (some v) nil nil else bif Nat.beq (k % 2) 1 then nd none (single f (k / 2) v) nil else nd none nil (single f (k / 2 - 1) v)
def set : Tr α → Nat → α → Tr α
  | nil, k, v => single k k v
  | nd x l r, k, v => bif Nat.beq k 0 then nd (some v) l r else bif Nat.beq (k % 2) 1 then nd x (l.set (k / 2) v) r else nd x l (r.set (k / 2 - 1) v)
def del : Tr α → Nat → Tr α
  | nil, _ => nil
  | nd x l r, k => bif Nat.beq k 0 then nd none l r else bif Nat.beq (k % 2) 1 then nd x (l.del (k / 2)) r else nd x l (r.del (k / 2 - 1))
theorem beqd (a b : Nat) : Nat.beq a b = decide (a = b) := by
  rw [Bool.eq_iff_iff, Nat.beq_eq]; simp
theorem get_single (v : α) : ∀ (f k : Nat), k ≤ f → ∀ j, (single f k v).get j = if j = k then some v else none
  | 0, k, h, j => by
    obtain rfl : k = 0 := by omega
    simp only [single, get, beqd]
    by_cases hj : j = 0 <;> simp [hj]
  | f + 1, k, h, j => by
    simp only [single, beqd]
    by_cases hk : k = 0
    · subst hk
      by_cases hj : j = 0 <;> simp [get, hj, beqd]
    · by_cases ho : k % 2 = 1
      · simp only [hk, ho, decide_false, decide_true, cond_false, cond_true, get, beqd]
        rw [get_single v f (k / 2) (by omega)]
        by_cases hj : j = 0
        · have : ¬ j = k := by omega
          simp [hj]; omega
        · by_cases hjo : j % 2 = 1
          · simp only [hj, hjo, decide_false, decide_true, cond_false, cond_true]
            by_cases e : j = k
            · subst e; simp
            · rw [if_neg (by omega), if_neg e]
          · simp only [hj, hjo, decide_false, cond_false]
            rw [if_neg (by omega)]
      · simp only [hk, ho, decide_false, cond_false, get, beqd]
        rw [get_single v f (k / 2 - 1) (by omega)]
        by_cases hj : j = 0
        · simp [hj]; omega
        · by_cases hjo : j % 2 = 1
          · simp only [hj, hjo, decide_false, decide_true, cond_false, cond_true]
            rw [if_neg (by omega)]
          · simp only [hj, hjo, decide_false, cond_false]
            by_cases e : j = k
            · subst e; simp
            · rw [if_neg (by omega), if_neg e]
theorem get_set (v : α) : ∀ (t : Tr α) (k j : Nat), (t.set k v).get j = if j = k then some v else t.get j
  | nil, k, j => by
    show (single k k v).get j = _
    rw [get_single v k k (Nat.le_refl _) j]; rfl
  | nd x l r, k, j => by
    simp only [set, beqd]
    by_cases hk : k = 0
    · subst hk
      by_cases hj : j = 0 <;> simp [get, hj, beqd]
    · by_cases ho : k % 2 = 1
      · simp only [hk, ho, decide_false, decide_true, cond_false, cond_true, get, beqd]
        by_cases hj : j = 0
        · simp [hj]; omega
        · by_cases hjo : j % 2 = 1
          · simp only [hj, hjo, decide_false, decide_true, cond_false, cond_true]
            rw [get_set v l]
            by_cases e : j = k
            · subst e; simp
            · rw [if_neg (by omega), if_neg e]
          · simp only [hj, hjo, decide_false, cond_false]
            rw [if_neg (by omega)]
      · simp only [hk, ho, decide_false, cond_false, get, beqd]
        by_cases hj : j = 0
        · simp [hj]; omega
        · by_cases hjo : j % 2 = 1
          · simp only [hj, hjo, decide_false, decide_true, cond_false, cond_true]
            rw [if_neg (by omega)]
          · simp only [hj, hjo, decide_false, cond_false]
            rw [get_set v r]
            by_cases e : j = k
            · subst e; simp
            · rw [if_neg (by omega), if_neg e]
theorem get_del : ∀ (t : Tr α) (k j : Nat), (t.del k).get j = if j = k then none else t.get j
  | nil, k, j => by simp [del, get]
  | nd x l r, k, j => by
    simp only [del, beqd]
    by_cases hk : k = 0
    · subst hk
      by_cases hj : j = 0 <;> simp [get, hj, beqd]
    · by_cases ho : k % 2 = 1
      · simp only [hk, ho, decide_false, decide_true, cond_false, cond_true, get, beqd]
        by_cases hj : j = 0
        · simp [hj]; omega
        · by_cases hjo : j % 2 = 1
          · simp only [hj, hjo, decide_false, decide_true, cond_false, cond_true]
            rw [get_del l]
            by_cases e : j = k
            · subst e; simp
            · rw [if_neg (by omega), if_neg e]
          · simp only [hj, hjo, decide_false, cond_false]
            rw [if_neg (by omega)]
      · simp only [hk, ho, decide_false, cond_false, get, beqd]
        by_cases hj : j = 0
        · simp [hj]; omega
        · by_cases hjo : j % 2 = 1
          · simp only [hj, hjo, decide_false, decide_true, cond_false, cond_true]
            rw [if_neg (by omega)]
          · simp only [hj, hjo, decide_false, cond_false]
            rw [get_del r]
            by_cases e : j = k
            · subst e; simp
            · rw [if_neg (by omega), if_neg e]
end Tr

/-! ### Values by names -/
/-- a slice's capacity: known, or what its block has room for (cells an element) -/
inductive Cp where
  | k (c : Nat)
  | u (es : Nat)
/-- what one cell holds -/
inductive C where
  | b (x : Bool)
  | i (k : IntKind) (n : Int)
  | s (x : ByteArray)
  | p (x : Option (Nat × Nat))
  | l (x : Option (Nat × Nat)) (n : Nat) (c : Cp)
  | f (fn : Nat) (first cap : List (Nat × Nat))
  | nf
  | ni
  /-- a map: nil, or its block's name -/
  | m (x : Option Nat)
  /-- a number that is not known: its name, and what is known of it (an operator's code, a number, the answer) -/
  | o (k : Nat) (f : List (Nat × Int × Bool))
  /-- an interface's value: a cell, or a struct of one cell -/
  | d (t : TypeId) (agg : Bool) (x : C)
/-- a cell, or a struct's or an array's cells -/
inductive Wv where
  | c (x : C)
  | a (cs : List C)
/-- a value of a temporary -/
inductive V where
  | w (x : Wv)
  | t (xs : List Wv)
/-- names' blocks, and how many cells these have -/
abbrev Nm := Nat → Option (Nat × Nat)
def Nm.le (r s : Nm) : Prop := ∀ k x, r k = some x → s k = some x
theorem Nm.le_refl (r : Nm) : r.le r := fun _ _ h => h
theorem Nm.le_trans {r s t : Nm} (h : r.le s) (k : s.le t) : r.le t := fun _ _ e => k _ _ (h _ _ e)
def ptrOf (b o : Nat) : Value := .pointer (some ⟨b, o, none⟩)
inductive AR (r : Nm) : List (Nat × Nat) → List Value → Prop where
  | nil : AR r [] []
  | cons {k o b sz xs vs} (h : r k = some (b, sz)) (t : AR r xs vs) : AR r ((k, o) :: xs) (ptrOf b o :: vs)
/-- a number that is not known stands for this one -/
def oV (b sz : Nat) : Int := if sz = 0 then (b : Int) else -(b : Int)
def cmpC : Nat → Int → Int → Option Bool
  | 0, x, y => some (x == y)
  | 1, x, y => some (x != y)
  | 2, x, y => some (decide (x < y))
  | 3, x, y => some (decide (x ≤ y))
  | 4, x, y => some (decide (x > y))
  | 5, x, y => some (decide (x ≥ y))
  | _, _, _ => none
inductive CR (r : Nm) : C → Value → Prop where
  | b (x) : CR r (.b x) (.bool x)
  | i (k n) : CR r (.i k n) (.int k n)
  | s (x) : CR r (.s x) (.string x)
  | p0 : CR r (.p none) (.pointer none)
  | p {k o b sz} (h : r k = some (b, sz)) : CR r (.p (some (k, o))) (ptrOf b o)
  | l0 (n c) : CR r (.l none n (.k c)) (.slice none n c)
  | l {k o b sz} (n c) (h : r k = some (b, sz)) : CR r (.l (some (k, o)) n (.k c)) (.slice (some ⟨b, o, none⟩) n c)
  | u {k o b sz} (n c es) (h : r k = some (b, sz)) (h1 : n ≤ c) (h2 : c ≤ maxLen) (h3 : o + c * es = sz) : CR r (.l (some (k, o)) n (.u es)) (.slice (some ⟨b, o, none⟩) n c)
  | f (fn) {a c va vc} (ha : AR r a va) (hc : AR r c vc) : CR r (.f fn a c) (.func (.func fn) va.toArray vc.toArray)
  | nf : CR r .nf .nilFunc
  | ni : CR r .ni .nilIface
  | m0 : CR r (.m none) (.map none)
  | m {k b sz} (h : r k = some (b, sz)) : CR r (.m (some k)) (.map (some b))
  | o {k b sz f} (h : r k = some (b, sz)) (hf : ∀ x ∈ f, cmpC x.1 (oV b sz) x.2.1 = some x.2.2) : CR r (.o k f) (.int .i64 (oV b sz))
  | d (t) {c v} (h : CR r c v) : CR r (.d t false c) (.iface t v)
  | da (t) {c v} (h : CR r c v) : CR r (.d t true c) (.iface t (.agg #[v]))
inductive CsR (r : Nm) : List C → List Value → Prop where
  | nil : CsR r [] []
  | cons {c v cs vs} (h : CR r c v) (t : CsR r cs vs) : CsR r (c :: cs) (v :: vs)
inductive WR (r : Nm) : Wv → Value → Prop where
  | c {x v} (h : CR r x v) : WR r (.c x) v
  | a {cs vs} (h : CsR r cs vs) : WR r (.a cs) (.agg vs.toArray)
inductive WsR (r : Nm) : List Wv → List Value → Prop where
  | nil : WsR r [] []
  | cons {c v cs vs} (h : WR r c v) (t : WsR r cs vs) : WsR r (c :: cs) (v :: vs)
inductive VR (r : Nm) : V → Value → Prop where
  | w {x v} (h : WR r x v) : VR r (.w x) v
  | t {xs vs} (h : WsR r xs vs) : VR r (.t xs) (.tuple vs.toArray)
section mono
variable {r s : Nm} (h : r.le s)
include h
theorem AR.mono {x v} (k : AR r x v) : AR s x v := by
  induction k with
  | nil => exact .nil
  | cons e _ ih => exact .cons (h _ _ e) ih
theorem CR.mono {x v} (k : CR r x v) : CR s x v := by
  induction k with
  | b => exact .b _
  | i => exact .i _ _
  | s => exact .s _
  | p0 => exact .p0
  | p e => exact .p (h _ _ e)
  | l0 => exact .l0 _ _
  | l n c e => exact .l n c (h _ _ e)
  | u n c es e h1 h2 h3 => exact .u n c es (h _ _ e) h1 h2 h3
  | f fn ha hc => exact .f fn (ha.mono h) (hc.mono h)
  | nf => exact .nf
  | ni => exact .ni
  | m0 => exact .m0
  | m e => exact .m (h _ _ e)
  | o e hf => exact .o (h _ _ e) hf
  | d t _ ih => exact .d t ih
  | da t _ ih => exact .da t ih
theorem CsR.mono {x v} (k : CsR r x v) : CsR s x v := by
  induction k with
  | nil => exact .nil
  | cons e _ ih => exact .cons (e.mono h) ih
theorem WR.mono {x v} (k : WR r x v) : WR s x v := by
  cases k with
  | c e => exact .c (e.mono h)
  | a e => exact .a (e.mono h)
theorem WsR.mono {x v} (k : WsR r x v) : WsR s x v := by
  induction k with
  | nil => exact .nil
  | cons e _ ih => exact .cons (e.mono h) ih
theorem VR.mono {x v} (k : VR r x v) : VR s x v := by
  cases k with
  | w e => exact .w (e.mono h)
  | t e => exact .t (e.mono h)
end mono

/-! ### Memory by names -/
structure Bk where
  e : TypeId
  n : Nat
  /-- what a cell holds that u does not name: this pattern, again and again -/
  d : List C
  u : Tr C
  /-- a map's entries: whole numbers, and what is there -/
  mp : Option (List (C × C))
def Bk.cell (b : Bk) (j : Nat) : C := match b.u.get j with
  | some c => c
  | none => b.d.getD (j % b.d.length) .ni
abbrev Hp := Tr Bk
/-- what a block holds, as far as it is known -/
inductive MR (r : Nm) : List (C × C) → List MapEntry → Prop where
  | nil : MR r [] []
  | cons {k c e l es} (hk : CR r k e.key) (h : CR r c e.val) (t : MR r l es) : MR r ((k, c) :: l) (e :: es)
theorem MR.mono {r s : Nm} (h : r.le s) {l es} (k : MR r l es) : MR s l es := by
  induction k with
  | nil => exact .nil
  | cons hk e _ ih => exact .cons (hk.mono h) (e.mono h) ih
structure BR (r : Nm) (w : World) (B : Bk) (b sz : Nat) : Prop where
  mx : ∀ l, B.mp = some l → B.n = 0 ∧ ∃ es clk, w.heap[b]? = some (.map es clk) ∧ MR r l es.toList
  ex : B.mp = none → ∃ cs, w.heap[b]? = some (.cells cs B.e (0, 0)) ∧ cs.size = sz ∧ B.n ≤ sz ∧ ∀ j, j < B.n → ∃ v, cs[j]? = some v ∧ CR r (B.cell j) v
/-- what a memory by names is in a world -/
structure RelH (r : Nm) (H : Hp) (w : World) : Prop where
  at_ : ∀ k B, H.get k = some B → ∃ b sz, r k = some (b, sz) ∧ BR r w B b sz
  inj : ∀ k j B D b s t, H.get k = some B → H.get j = some D → r k = some (b, s) → r j = some (b, t) → k = j
/-- what else a call leaves as it was -/
structure Fr (r : Nm) (H : Hp) (w w' : World) : Prop where
  os : w'.os = w.os
  tape : w'.tape = w.tape
  output : w'.output = w.output
  size : w.heap.size ≤ w'.heap.size
  block : ∀ b, b < w.heap.size → (∀ k B sz, H.get k = some B → r k ≠ some (b, sz)) → w'.heap[b]? = w.heap[b]?
theorem BR.mono {r s : Nm} {w : World} {B : Bk} {b sz : Nat} (h : r.le s) (k : BR r w B b sz) : BR s w B b sz := by
  refine ⟨fun l hl => ?_, fun hm => ?_⟩
  · obtain ⟨h0, es, clk, h1, h2⟩ := k.mx l hl
    exact ⟨h0, es, clk, h1, h2.mono h⟩
  · obtain ⟨cs, h1, h2, h3, h4⟩ := k.ex hm
    exact ⟨cs, h1, h2, h3, fun j hj => by obtain ⟨v, a, c⟩ := h4 j hj; exact ⟨v, a, c.mono h⟩⟩
theorem BR.lt {r : Nm} {w : World} {B : Bk} {b sz : Nat} (k : BR r w B b sz) : b < w.heap.size := by
  cases hm : B.mp with
  | none => obtain ⟨cs, h1, _⟩ := k.ex hm; exact (Array.getElem?_eq_some_iff.1 h1).1
  | some l => obtain ⟨_, es, clk, h1, _⟩ := k.mx l hm; exact (Array.getElem?_eq_some_iff.1 h1).1
theorem BR.nomap {r : Nm} {w : World} {B : Bk} {b sz : Nat} (k : BR r w B b sz) (h : 0 < B.n) : B.mp = none := by
  cases hm : B.mp with
  | none => rfl
  | some l => have := (k.mx l hm).1; omega
theorem BR.keep {r : Nm} {w w' : World} {B : Bk} {b sz : Nat} (k : BR r w B b sz) (h : w'.heap[b]? = w.heap[b]?) : BR r w' B b sz := by
  refine ⟨fun l hl => ?_, fun hm => ?_⟩
  · obtain ⟨h0, es, clk, h1, h2⟩ := k.mx l hl
    exact ⟨h0, es, clk, h.trans h1, h2⟩
  · obtain ⟨cs, h1, h2⟩ := k.ex hm
    exact ⟨cs, h.trans h1, h2⟩
theorem Fr.refl (r : Nm) (H : Hp) (w : World) : Fr r H w w := ⟨rfl, rfl, rfl, Nat.le_refl _, fun _ _ _ => rfl⟩
theorem Fr.drew {r : Nm} {H : Hp} {w w' : World} (h : Fr r H w w') : Fr r H w w'.drew := ⟨h.os, h.tape, h.output, h.size, h.block⟩
end Go.Proofs.YtagajjilccjplaaGreat
end
section
set_option linter.unusedVariables false
set_option linter.unusedSimpArgs false
/- Running closed code: operations that touch no memory. -/
namespace Go.Proofs.YtagajjilccjplaaGreat
open Go.RowKit

/-! ### Constants -/
def cOf : Value → Option C
  | .bool b => some (.b b)
  | .int k n => some (.i k n)
  | .string s => some (.s s)
  | .pointer none => some (.p none)
  | .slice none n c => some (.l none n (.k c))
  | .nilFunc => some .nf
  | .nilIface => some .ni
  | _ => none
theorem cOf_ok {r : Nm} {v : Value} {c : C} (h : cOf v = some c) : CR r c v := by
  unfold cOf at h
  split at h <;> (try (injection h with h; subst h)) <;> first | exact .b _ | exact .i _ _ | exact .s _ | exact .p0 | exact .l0 _ _ | exact .nf | exact .ni | cases h
def csOf : List Value → Option (List C)
  | [] => some []
  | v :: vs => match cOf v, csOf vs with
    | some c, some cs => some (c :: cs)
    | _, _ => none
theorem csOf_ok {r : Nm} : ∀ {vs : List Value} {cs : List C}, csOf vs = some cs → CsR r cs vs
  | [], cs, h => by injection h with h; subst h; exact .nil
  | v :: vs, cs, h => by
    unfold csOf at h
    split at h
    · rename_i c cs' h1 h2
      injection h with h
      subst h
      exact .cons (cOf_ok h1) (csOf_ok h2)
    · cases h
def wOf : Value → Option Wv
  | .agg cs => (csOf cs.toList).map .a
  | v => (cOf v).map .c
theorem wOf_ok {r : Nm} {v : Value} {x : Wv} (h : wOf v = some x) : WR r x v := by
  unfold wOf at h
  split at h
  · rename_i cs
    cases hc : csOf cs.toList with
    | none => rw [hc] at h; cases h
    | some l =>
      rw [hc] at h
      injection h with h
      subst h
      have := WR.a (csOf_ok (r := r) hc)
      simpa using this
  · cases hc : cOf v with
    | none => rw [hc] at h; cases h
    | some l =>
      rw [hc] at h
      injection h with h
      subst h
      exact .c (cOf_ok hc)
def vOf : Value → Option V
  | .tuple vs => if vs.size = 0 then some (.t []) else none
  | v => (wOf v).map .w
theorem vOf_ok {r : Nm} {v : Value} {x : V} (h : vOf v = some x) : VR r x v := by
  unfold vOf at h
  split at h
  · rename_i vs
    split at h
    · rename_i hz
      injection h with h
      subst h
      have : vs = #[] := Array.eq_empty_of_size_eq_zero hz
      subst this
      exact .t .nil
    · cases h
  · cases hc : wOf v with
    | none => rw [hc] at h; cases h
    | some l =>
      rw [hc] at h
      injection h with h
      subst h
      exact .w (wOf_ok hc)
/-! ### Operands -/
def evO (tm : Tr V) : Operand → Option V
  | .tmp t => tm.get t
  | .const v => vOf v
  | .func f => some (.w (.c (.f f [] [])))
  | .global _ => none
/-- a frame -/
structure RelA (r : Nm) (tm : Tr V) (n : Nat) (a : Act) : Prop where
  size : a.tmps.size = n
  defers : a.defers = []
  val : ∀ i v, tm.get i = some v → ∃ u, a.tmps[i]? = some u ∧ VR r v u
theorem evO_ok {r : Nm} {tm : Tr V} {n : Nat} {a : Act} (h : RelA r tm n a) {x : Operand} {v : V} (e : evO tm x = some v) : VR r v (a.eval x) := by
  cases x with
  | tmp t =>
    obtain ⟨u, h1, h2⟩ := h.val t v e
    show VR r v (a.tmps.getD t undef)
    rw [Array.getD_eq_getD_getElem?, h1]
    exact h2
  | const u => exact vOf_ok e
  | func f =>
    injection e with e
    subst e
    exact .w (.c (.f f .nil .nil))
  | global g => cases e
theorem RelA.mono {r s : Nm} {tm : Tr V} {n : Nat} {a : Act} (h : RelA r tm n a) (k : r.le s) : RelA s tm n a :=
  ⟨h.size, h.defers, fun i v e => by obtain ⟨u, h1, h2⟩ := h.val i v e; exact ⟨u, h1, h2.mono k⟩⟩
theorem RelA.put {r : Nm} {tm : Tr V} {n : Nat} {a : Act} (h : RelA r tm n a) {d : Nat} (hd : d < n) {v : V} {u : Value} (hv : VR r v u) : RelA r (tm.set d v) n (a.put (some d) u) := by
  refine ⟨by simp [Act.put, h.size], h.defers, fun i x hx => ?_⟩
  rw [Tr.get_set] at hx
  show ∃ y, (a.tmps.setIfInBounds d u)[i]? = some y ∧ VR r x y
  by_cases e : i = d
  · subst e
    rw [if_pos rfl] at hx
    injection hx with hx
    subst hx
    exact ⟨u, by simp [h.size, hd], hv⟩
  · rw [if_neg e] at hx
    obtain ⟨y, h1, h2⟩ := h.val i x hx
    exact ⟨y, by rw [Array.getElem?_setIfInBounds_ne (fun e' => e e'.symm)]; exact h1, h2⟩
theorem RelA.lose {r : Nm} {tm : Tr V} {n : Nat} {a : Act} (h : RelA r tm n a) (d : Nat) (u : Value) : RelA r (tm.del d) n (a.put (some d) u) := by
  refine ⟨by simp [Act.put, h.size], h.defers, fun i x hx => ?_⟩
  rw [Tr.get_del] at hx
  show ∃ y, (a.tmps.setIfInBounds d u)[i]? = some y ∧ VR r x y
  by_cases e : i = d
  · rw [if_pos e] at hx; cases hx
  · rw [if_neg e] at hx
    obtain ⟨y, h1, h2⟩ := h.val i x hx
    exact ⟨y, by rw [Array.getElem?_setIfInBounds_ne (fun e' => e e'.symm)]; exact h1, h2⟩
theorem RelA.same {r : Nm} {tm : Tr V} {n : Nat} {a : Act} (h : RelA r tm n a) (u : Value) : RelA r tm n (a.put none u) := h
/-! ### Types -/
def szOf (P : Program) (t : TypeId) : Option Nat := (P.info? t).map (·.size)
def aggB (P : Program) (t : TypeId) : Option Bool := match P.underlying t with
  | some (.struct _) => some true
  | some (.array _ _) => some true
  | some _ => some false
  | none => none
theorem run_szOf {P : Program} {t : TypeId} {n : Nat} (h : szOf P t = some n) (w : World) : (sizeOf t).run P w = .ok n w := by
  unfold szOf at h
  cases hi : P.info? t with
  | none => rw [hi] at h; cases h
  | some i =>
    rw [hi] at h
    injection h with h
    subst h
    simp [sizeOf, typeInfo, hi, go_sem]
theorem run_aggB {P : Program} {t : TypeId} {b : Bool} (h : aggB P t = some b) (w : World) : (isAgg t).run P w = .ok b w := by
  unfold aggB at h
  cases hu : P.underlying t with
  | none => rw [hu] at h; cases h
  | some d =>
    rw [hu] at h
    have := run_underlying hu w
    cases d <;> simp at h <;> subst h <;> simp [isAgg, go_sem, this]
theorem CsR.length {r : Nm} {cs : List C} {vs : List Value} (h : CsR r cs vs) : vs.length = cs.length := by
  induction h with
  | nil => rfl
  | cons _ _ ih => simp [ih]
theorem CsR.get {r : Nm} {cs : List C} {vs : List Value} (h : CsR r cs vs) : ∀ (i : Nat) (c : C), cs[i]? = some c → ∃ v, vs[i]? = some v ∧ CR r c v := by
  induction h with
  | nil => intro i c h; simp at h
  | cons h t ih =>
    intro i c hc
    cases i with
    | zero => simp at hc; subst hc; exact ⟨_, rfl, h⟩
    | succ i => simpa using ih i c (by simpa using hc)
theorem CsR.drop {r : Nm} {cs : List C} {vs : List Value} (h : CsR r cs vs) : ∀ n, CsR r (cs.drop n) (vs.drop n) := by
  induction h with
  | nil => intro n; simp; exact .nil
  | cons h t ih =>
    intro n
    cases n with
    | zero => exact .cons h t
    | succ n => simpa using ih n
theorem CsR.take {r : Nm} {cs : List C} {vs : List Value} (h : CsR r cs vs) : ∀ n, CsR r (cs.take n) (vs.take n) := by
  induction h with
  | nil => intro n; simp; exact .nil
  | cons h t ih =>
    intro n
    cases n with
    | zero => exact .nil
    | succ n => simpa using .cons h (ih n)
theorem CsR.append {r : Nm} {cs ds : List C} {vs us : List Value} (h : CsR r cs vs) (k : CsR r ds us) : CsR r (cs ++ ds) (vs ++ us) := by
  induction h with
  | nil => exact k
  | cons h t ih => exact .cons h ih
/-- a part of a struct's or an array's cells -/
def partC (P : Program) (t : TypeId) (cs : List C) (off : Nat) : Option Wv := match aggB P t, szOf P t with
  | some true, some n => some (.a ((cs.drop off).take n))
  | some false, some _ => (cs[off]?).map .c
  | _, _ => none
theorem partC_ok {P : Program} {r : Nm} {t : TypeId} {cs : List C} {vs : List Value} {off : Nat} {x : Wv} (h : CsR r cs vs) (e : partC P t cs off = some x) :
    ∃ u, WR r x u ∧ ∀ w, (part t vs.toArray off).run P w = .ok u w := by
  unfold partC at e
  split at e
  · rename_i n h1 h2
    injection e with e
    subst e
    refine ⟨_, .a ((h.drop off).take n), fun w => ?_⟩
    have e1 := run_aggB h1 w
    have e2 := run_szOf h2 w
    simp [part, go_sem, e1, e2, List.extract_eq_take_drop]
  · rename_i n h1 h2
    cases hc : cs[off]? with
    | none => rw [hc] at e; cases e
    | some c =>
      rw [hc] at e
      injection e with e
      subst e
      obtain ⟨v, hv, hr⟩ := h.get off c hc
      refine ⟨v, .c hr, fun w => ?_⟩
      have e1 := run_aggB h1 w
      simp [part, go_sem, e1, hv]
  · cases e
end Go.Proofs.YtagajjilccjplaaGreat
end
section
set_option linter.unusedVariables false
set_option linter.unusedSimpArgs false
/- Running closed code: operators on numbers, truth values, strings, and equality. -/
namespace Go.Proofs.YtagajjilccjplaaGreat
open Go.RowKit

/-! ### Equality -/
def eqFs (rc : TypeId → Wv → Wv → Option Bool) (P : Program) : List Field → List C → List C → Option Bool
  | [], _, _ => some true
  | f :: fs, xs, ys => if f.name = "_" then none else
    match partC P f.type xs f.offset with
    | none => none
    | some a => match partC P f.type ys f.offset with
      | none => none
      | some b => match rc f.type a b with
        | none => none
        | some false => some false
        | some true => eqFs rc P fs xs ys
def eqW (P : Program) : Nat → TypeId → Wv → Wv → Option Bool
  | 0, _, _, _ => none
  | m + 1, t, x, y => match P.underlying t with
    | some .bool => match x, y with
      | .c (.b a), .c (.b b) => some (a == b)
      | _, _ => none
    | some (.int _) => match x, y with
      | .c (.i k a), .c (.i j b) => if k = j then some (a == b) else none
      | _, _ => none
    | some .string => match x, y with
      | .c (.s a), .c (.s b) => some (a.toList == b.toList)
      | _, _ => none
    | some (.struct fs) => match x, y with
      | .a xs, .a ys => if P.stoodInHeld t then none else eqFs (eqW P m) P fs.toList xs ys
      | _, _ => none
    | _ => none
theorem eqFs_ok {P : Program} {r : Nm} {rc : TypeId → Wv → Wv → Option Bool} {d : Nat} (hrc : ∀ t x y b u v, rc t x y = some b → WR r x u → WR r y v → ∀ w, (Op.equalIn d t u v).run P w = .ok b w)
    {xs ys : List C} {us vs : List Value} (hx : CsR r xs us) (hy : CsR r ys vs) : ∀ (fs : List Field) (b : Bool), eqFs rc P fs xs ys = some b → ∀ w, (Op.eqFields d us.toArray vs.toArray fs).run P w = .ok b w := by
  intro fs
  induction fs with
  | nil => intro b h w; injection h with h; subst h; simp [Op.eqFields]
  | cons f fs ih =>
    intro b h w
    unfold eqFs at h
    split at h
    · cases h
    · rename_i hn
      split at h
      · cases h
      · rename_i a ha
        split at h
        · cases h
        · rename_i c hc
          obtain ⟨u, hu, ru⟩ := partC_ok hx ha
          obtain ⟨v, hv, rv⟩ := partC_ok hy hc
          split at h
          · cases h
          · rename_i he
            injection h with h
            subst h
            have hr := hrc _ _ _ _ _ _ he hu hv
            simp only [Op.eqFields, ne_eq, hn, not_false_eq_true, if_true, Sem.run_bind, ru, rv, hr, Result.andThen_ok, Bool.not_false, Sem.run_pure]
          · rename_i he
            have hr := hrc _ _ _ _ _ _ he hu hv
            simp only [Op.eqFields, ne_eq, hn, not_false_eq_true, if_true, Sem.run_bind, ru, rv, hr, Result.andThen_ok, Bool.not_true, Bool.false_eq_true, if_false]
            exact ih b h w
theorem eqW_ok {P : Program} {r : Nm} : ∀ (m d : Nat), m ≤ d → ∀ t x y b u v, eqW P m t x y = some b → WR r x u → WR r y v → ∀ w, (Op.equalIn d t u v).run P w = .ok b w := by
  intro m
  induction m with
  | zero => intro d _ t x y b u v h; cases h
  | succ m ih =>
    intro d hd t x y b u v h hu hv w
    obtain ⟨d, rfl⟩ : ∃ e, d = e + 1 := ⟨d - 1, by omega⟩
    unfold eqW at h
    split at h
    · rename_i ht
      split at h
      · injection h with h
        subst h
        cases hu with
        | c hu => cases hu; cases hv with
          | c hv => cases hv; exact run_equalIn_bool' w d t _ _ ht
      · cases h
    · rename_i ht
      split at h
      · split at h
        · rename_i k a j c hk
          subst hk
          injection h with h
          subst h
          cases hu with
          | c hu => cases hu; cases hv with
            | c hv => cases hv; exact run_equalIn_int w d t _ _ _ _ ht
        · cases h
      · cases h
    · rename_i ht
      split at h
      · injection h with h
        subst h
        cases hu with
        | c hu => cases hu; cases hv with
          | c hv => cases hv; exact run_equalIn_string w d t _ _ ht
      · cases h
    · rename_i fs ht
      split at h
      · split at h
        · cases h
        · rename_i xs ys hs
          cases hu with
          | a hu => cases hv with
            | a hv =>
              have hf : P.fieldsOf t = fs := by unfold Program.fieldsOf; rw [ht]
              rw [run_equalIn_struct w d t _ _ (by rw [hf]; exact ht) (by simpa using hs), hf]
              exact eqFs_ok (fun t x y b u v => ih d (by omega) t x y b u v) hu hv fs.toList b h w
      · cases h
    · cases h
/-! ### Operators -/
def bitsI (op : BinOp) (k : IntKind) (x y : Int) : Option Int := match op with
  | .and => some (k.wrap (BitVec.ofInt k.bits x &&& BitVec.ofInt k.bits y).toNat)
  | .or => some (k.wrap (BitVec.ofInt k.bits x ||| BitVec.ofInt k.bits y).toNat)
  | .xor => some (k.wrap (BitVec.ofInt k.bits x ^^^ BitVec.ofInt k.bits y).toNat)
  | .andNot => some (k.wrap (BitVec.ofInt k.bits x &&& ~~~BitVec.ofInt k.bits y).toNat)
  | _ => none
def intBin (op : BinOp) (k : IntKind) (x y : Int) : Option C := match op with
  | .add => some (.i k (k.wrap (x + y)))
  | .sub => some (.i k (k.wrap (x - y)))
  | .mul => some (.i k (k.wrap (x * y)))
  | .quo => if y = 0 then none else some (.i k (k.wrap (x.tdiv y)))
  | .rem => if y = 0 then none else some (.i k (x.tmod y))
  | .eql => some (.b (x == y))
  | .neq => some (.b (x != y))
  | .lss => some (.b (x < y))
  | .leq => some (.b (x ≤ y))
  | .gtr => some (.b (x > y))
  | .geq => some (.b (x ≥ y))
  | .shl => none
  | .shr => none
  | op => (bitsI op k x y).map (.i k)
def shiftI (op : BinOp) (k : IntKind) (x y : Int) : Option C := if y < 0 then none else match op with
  | .shl => some (.i k (k.wrap (x * 2 ^ min y.toNat k.bits)))
  | .shr => some (.i k (x.fdiv (2 ^ min y.toNat k.bits)))
  | _ => none
def isShift : BinOp → Bool
  | .shl => true
  | .shr => true
  | _ => false
def strBin (op : BinOp) (x y : ByteArray) : Option C :=
  match op with
  | .add => if x.size + y.size ≤ 1000000 then some (.s (x ++ y)) else none
  | .eql => some (.b (x.toList == y.toList))
  | .neq => some (.b (!(x.toList == y.toList)))
  | _ => none
def eqB (op : BinOp) (b : Bool) : Option C := match op with
  | .eql => some (.b b)
  | .neq => some (.b (!b))
  | _ => none
def codeB : BinOp → Nat
  | .eql => 0
  | .neq => 1
  | .lss => 2
  | .leq => 3
  | .gtr => 4
  | .geq => 5
  | _ => 9
/-- what is known of a number that is not known -/
def lookF : List (Nat × Int × Bool) → Nat → Int → Option Bool
  | [], _, _ => none
  | (c, n, b) :: l, d, m => if c = d ∧ n = m then some b else lookF l d m
theorem lookF_mem : ∀ {l : List (Nat × Int × Bool)} {d : Nat} {m : Int} {b : Bool}, lookF l d m = some b → (d, m, b) ∈ l
  | [], _, _, _, h => by cases h
  | (c, n, b) :: l, d, m, b', h => by
    unfold lookF at h
    split at h
    · rename_i hc
      injection h with h
      obtain ⟨rfl, rfl⟩ := hc
      subst h
      exact List.mem_cons_self
    · exact List.mem_cons_of_mem _ (lookF_mem h)
def opBin (P : Program) (op : BinOp) (t : TypeId) (x y : V) : Option C := match x, y with
  | .w (.c (.i k a)), .w (.c (.i j b)) => if isShift op then shiftI op k a b else if k = j then intBin op k a b else none
  | .w (.c (.s a)), .w (.c (.s b)) => strBin op a b
  | .w (.c (.b a)), .w (.c (.b b)) => match P.underlying t with
    | some .bool => eqB op (a == b)
    | _ => none
  | .w (.c (.p a)), .w (.c (.p none)) => match P.underlying t with
    | some (.pointer _) => eqB op a.isNone
    | _ => none
  | .w (.c (.p none)), .w (.c (.p (some _))) => match P.underlying t with
    | some (.pointer _) => eqB op false
    | _ => none
  | .w (.c (.l a _ _)), .w (.c (.l none 0 (.k 0))) => match P.underlying t with
    | some (.slice _) => eqB op a.isNone
    | _ => none
  | .w (.c .nf), .w (.c .nf) => match P.underlying t with
    | some (.func _ _ _) => eqB op true
    | _ => none
  | .w (.c (.f _ _ _)), .w (.c .nf) => match P.underlying t with
    | some (.func _ _ _) => eqB op false
    | _ => none
  | .w (.a xs), .w (.a ys) => if P.eqGuardType P.depth t then none else match eqW P 12 t (.a xs) (.a ys) with
    | some b => eqB op b
    | none => none
  | .w (.c (.o _ f)), .w (.c (.i .i64 n)) => (lookF f (codeB op) n).map .b
  | _, _ => none
theorem bitsI_ok {P : Program} {op : BinOp} {k : IntKind} {x y z : Int} (h : bitsI op k x y = some z) (w : World) : (Op.intBits op k x y).run P w = .ok (.int k z) w := by
  unfold bitsI at h
  split at h <;> first | (injection h with h; subst h; simp [Op.intBits]) | cases h
theorem intBin_ok {P : Program} {r : Nm} {op : BinOp} {t : TypeId} {k : IntKind} {x y : Int} {c : C} (h : intBin op k x y = some c) : ∃ u, CR r c u ∧ ∀ w, (binOp op t (.int k x) (.int k y)).run P w = .ok u w := by
  unfold intBin at h
  split at h
  case h_14 =>
    cases hb : bitsI _ k x y with
    | none => rw [hb] at h; cases h
    | some z =>
      rw [hb] at h
      injection h with h
      subst h
      refine ⟨_, .i k z, fun w => ?_⟩
      have := bitsI_ok (P := P) hb w
      unfold bitsI at hb
      split at hb <;> first | (simpa [binOp] using this) | cases hb
  all_goals first
    | (injection h with h; subst h; refine ⟨_, by first | exact .i _ _ | exact .b _, fun w => ?_⟩; simp [binOp, Op.intArith, Op.intCmp, go_sem]; done)
    | (split at h
       · cases h
       · rename_i hz
         injection h with h; subst h; refine ⟨_, .i _ _, fun w => ?_⟩; simp [binOp, Op.intDiv, hz, go_sem])
    | cases h
theorem cmpC_ok {op : BinOp} {x y : Int} {b : Bool} (h : cmpC (codeB op) x y = some b) : intBin op .i64 x y = some (.b b) := by
  cases op <;> simp [codeB, cmpC] at h <;> subst h <;> simp [intBin]
theorem shiftI_ok {P : Program} {r : Nm} {op : BinOp} {t : TypeId} {k j : IntKind} {x y : Int} {c : C} (hs : isShift op = true) (h : shiftI op k x y = some c) : ∃ u, CR r c u ∧ ∀ w, (binOp op t (.int k x) (.int j y)).run P w = .ok u w := by
  unfold shiftI at h
  split at h
  · cases h
  · rename_i hz
    split at h
    · injection h with h; subst h; refine ⟨_, .i _ _, fun w => ?_⟩; simp [binOp, Op.shift, hz, go_sem]
    · injection h with h; subst h; refine ⟨_, .i _ _, fun w => ?_⟩; simp [binOp, Op.shift, hz, go_sem]
    · cases h
end Go.Proofs.YtagajjilccjplaaGreat
end
