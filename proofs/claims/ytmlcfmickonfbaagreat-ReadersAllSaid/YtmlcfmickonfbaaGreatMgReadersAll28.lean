/- Joined: Lv8, LvR1, LvR2, LvR3, LvR4. -/
import Derived.Test.YtmlcfmickonfbaaGreatMgReadersAll18
import Derived.Test.YtmlcfmickonfbaaGreatMgReadersAll27
section
set_option linter.unusedVariables false
set_option linter.unusedSimpArgs false
/- Layer 36 (neutral), plain: whoever has asked holds some time: by rounds. No program in sight. -/
namespace Go.Proofs.YtmlcfmickonfbaaGreat
open Go

theorem cntN_exL {P : Nat → Bool} : ∀ n, 0 < cntN n P → ∃ i, i < n ∧ P i = true
  | 0, h => absurd h (Nat.lt_irrefl _)
  | n + 1, h => by
    rw [cntN_succ] at h
    by_cases hp : P n = true
    · exact ⟨n, by omega, hp⟩
    · rw [if_neg hp] at h
      obtain ⟨i, hi, hpi⟩ := cntN_exL n (by omega)
      exact ⟨i, by omega, hpi⟩
section
variable {c : CoC} {n N L : Nat} {ml : Nat → Nat} {x : Nu} {B : Int}
theorem CoL.same {st : Co} {s' : Ar} (h : CoL c n N ml st) (hM : CoM c n N ml st) (y : CoLy c n N ml) (hW : s'.W = st.s.W) : CoL c n N ml (onA st s') := h.low hM y (fun q _ => by rw [hW])
def nuRest (n : Nat) (x : Nu) : Prop := ∀ i, i < n → (sv x.U i).pc = 0
end
end Go.Proofs.YtmlcfmickonfbaaGreat
end
section
set_option linter.unusedVariables false
set_option linter.unusedSimpArgs false
/- Layer 37 (readers), plain: whoever has asked holds some time. No program in sight. -/
namespace Go.Proofs.YtmlcfmickonfbaaGreat
open Go

/-- a writer lets the readers of node a by -/
def wr56 (n : Nat) (x : Nu) (a : Nat) : Prop := ∃ j, j < n ∧ (sv x.U j).a = 0 ∧ ((sv x.U j).pc = 5 ∨ (sv x.U j).pc = 6 ∧ x.d.at_ ≤ a)
def rdAny (n : Nat) (x : Nu) : Prop := ∃ j, j < n ∧ rdInR (sv x.U j) = true
def wr9 (n : Nat) (x : Nu) : Prop := ∃ j, j < n ∧ (sv x.U j).a = 0 ∧ (sv x.U j).pc = 9
open Classical in
noncomputable def chR (n N : Nat) (x : Nu) (a : Nat) : Nat := if wr56 n x a then 0 else 4 * N + 4
open Classical in
noncomputable def glR (n N : Nat) (x : Nu) : Nat := if wr9 n x ∧ x.d.second = true ∧ ldW x.st.s.W (gaA x.d.at_) ≠ x.d.out ∧ ¬ rdAny n x then 4 * N + 4 else 0
/-- what is left to a thread -/
def nvR (N ch : Nat) (d : Dr) (dd : Nat) (p : Sp) : Nat :=
  if p.pc = 0 then 0 else if p.a = 1 then (if p.pc = 1 then 4 * N + 18 else if p.pc = 2 then 8 + ch else if p.pc = 10 then 7 + ch else 6 + ch)
  else (if p.pc = 13 then 1 else if p.pc = 12 then 2 else if p.pc = 10 then 3 else if p.pc = 9 then 4 + 2 * (d.lim - d.at_) + (if d.second = true then 0 else 1) else if p.pc = 8 then 2 * N + 6 else if p.pc = 7 then 2 * N + 7 else if p.pc = 6 then 2 * N + 7 + dd else 4 * N + 9)
noncomputable def rwt (c : CoC) (n N : Nat) (x : Nu) (i : Nat) : Nat := nvR N (chR n N x (c.node i)) x.d (drD x.d x.st.s.W) (sv x.U i) + cwt c x.st i
noncomputable def rF (c : CoC) (n N : Nat) (x : Nu) : Nat := sumN n (rwt c n N x) + glR n N x
def RWit (c : CoC) (N : Nat) (x : Nu) (i : Nat) : Prop :=
  ((sv x.U i).a = 1 ∧ ((sv x.U i).pc = 1 ∨ (sv x.U i).pc = 10 ∨ (sv x.U i).pc = 11 ∨ (sv x.U i).pc = 2 ∧ ldW x.st.s.W (nuFl N) = 0)) ∨
    ((sv x.U i).a = 0 ∧ ((sv x.U i).pc = 5 ∨ (sv x.U i).pc = 8 ∨ (sv x.U i).pc = 9 ∨ (sv x.U i).pc = 10 ∨ (sv x.U i).pc = 12 ∨ (sv x.U i).pc = 6 ∧ ldW x.st.s.W (gaA x.d.at_) = ldW x.st.s.W (gaW x.d.at_) ∨ ((sv x.U i).pc = 7 ∨ (sv x.U i).pc = 13) ∧ CWit c x.st i))
def ROff (c : CoC) (n N : Nat) (x x' : Nu) (i : Nat) : Prop := x'.U = x.U ∧ rF c n N x' = rF c n N x ∧ ∀ j, j < n → j ≠ i → (RWit c N x j → RWit c N x' j)
def D6 (N : Nat) (d : Dr) (W : List Int) : Prop := (d.busy = true ∧ d.once = false ∧ d.at_ < N ∧ d.lim = N) ∧ (d.second = true → d.out ≤ ldW W (gaW d.at_))
/-- what more holds of a lock: the flag is up for a writer alone; where the drain of one who lets by stands -/
structure RsE (n N : Nat) (x : Nu) : Prop where
  f : ldW x.st.s.W (nuFl N) ≠ 0 → ∃ j, j < n ∧ wrPR (sv x.U j)
  d : ∀ j, j < n → (sv x.U j).a = 0 → (sv x.U j).pc = 6 → D6 N x.d x.st.s.W
theorem sumN_bump {f : Nat → Nat} {i a : Nat} : ∀ n, i < n → sumN n (fun j => if j = i then f j + a else f j) = sumN n f + a
  | 0, h => by omega
  | n + 1, h => by
    show sumN n (fun j => if j = i then f j + a else f j) + (if n = i then f n + a else f n) = sumN n f + f n + a
    by_cases q : n = i
    · rw [if_pos q, sumN_eq (f := f) n (fun j hj => if_neg (by omega))]; omega
    · rw [if_neg q, sumN_bump n (by omega)]; omega
/-- one gains, one pays -/
theorem sumN_two {f g : Nat → Nat} {i r a b n : Nat} (hi : i < n) (hr : r < n) (hir : r ≠ i) (h1 : g i ≤ f i + a) (h2 : g r + b ≤ f r) (ho : ∀ j, j < n → j ≠ i → j ≠ r → g j ≤ f j) : sumN n g + b ≤ sumN n f + a := by
  have e := sumN_bump (f := f) (i := i) (a := a) n hi
  have h := sumN_one (f := fun j => if j = i then f j + a else f j) (g := g) (e := 0) (r := b) (i := r) (by show g r + b ≤ (if r = i then f r + a else f r); rw [if_neg hir]; exact h2) n hr (fun j hj hjr => by
    show g j ≤ (if j = i then f j + a else f j) + 0
    split
    · rename_i q; rw [q]; omega
    · rename_i q; have := ho j hj q hjr; omega)
  rw [e, Nat.mul_zero] at h
  omega
theorem nvR_le {N ch ch' dd dd' e : Nat} {d d' : Dr} {p : Sp} (h1 : p.a = 1 → (p.pc = 2 ∨ p.pc = 10 ∨ p.pc = 11) → ch' ≤ ch) (hl : p.pc = 0 ∨ p.a = 1 ∧ (p.pc = 1 ∨ p.pc = 2 ∨ p.pc = 10 ∨ p.pc = 11) ∨ p.a = 0) (h6 : p.a = 0 → p.pc = 6 → dd' ≤ dd + e) (h9 : p.a = 0 → p.pc = 9 → d' = d) : nvR N ch' d' dd' p ≤ nvR N ch d dd p + e := by
  unfold nvR
  by_cases h0 : p.pc = 0
  · rw [if_pos h0]; omega
  rw [if_neg h0, if_neg h0]
  by_cases ha : p.a = 1
  · rw [if_pos ha, if_pos ha]
    have := h1 ha
    (repeat' split) <;> omega
  · rw [if_neg ha, if_neg ha]
    have ha0 : p.a = 0 := by omega
    by_cases q9 : p.pc = 9
    · rw [h9 ha0 q9]; (repeat' split) <;> omega
    · have := h6 ha0
      rw [if_neg q9, if_neg q9]
      (repeat' split) <;> omega
section
variable {c : CoC} {n N L : Nat} {ml : Nat → Nat} {x : Nu} {B : Int}
theorem set_sameR {U : List Sp} {i : Nat} {p : Sp} (hl : i < U.length) (h : p = sv U i) : U.set i p = U := by
  rw [h]
  unfold sv
  rw [List.getD_eq_getElem?_getD, List.getElem?_eq_getElem hl]
  exact List.set_getElem_self hl
theorem link3 {p t : Sp} (h : linkR p t) : p.pc = 0 ∨ p.a = 1 ∧ (p.pc = 1 ∨ p.pc = 2 ∨ p.pc = 10 ∨ p.pc = 11) ∨ p.a = 0 := by unfold linkR at h; omega
/-- who is at 5 to 12 as a writer holds the cohort lock -/
theorem at10 {p t : Sp} (h : linkR p t) (ha : p.a = 0) (hp : p.pc = 5 ∨ p.pc = 6 ∨ p.pc = 8 ∨ p.pc = 9 ∨ p.pc = 10 ∨ p.pc = 12) : t.pc = 10 := by unfold linkR at h; omega
theorem wr56_own (h : RsI c n N ml x) (y : CoLy c n N ml) {i : Nat} (hi : i < n) (ht : (sv x.st.T i).pc = 10) {st' : Co} {d' : Dr} {p' : Sp} {a : Nat} : wr56 n ⟨st', d', x.U.set i p'⟩ a ↔ p'.a = 0 ∧ (p'.pc = 5 ∨ p'.pc = 6 ∧ d'.at_ ≤ a) := by
  have hl : i < x.U.length := by rw [h.lU]; exact hi
  unfold wr56
  constructor
  · rintro ⟨j, hj, h0, h1⟩
    simp only at h0 h1
    rw [svS hl] at h0 h1
    by_cases e : j = i
    · rw [if_pos e] at h0 h1; exact ⟨h0, h1⟩
    · rw [if_neg e] at h0 h1
      exact absurd (h.one y hj hi (at10 (h.k j hj) h0 (by omega)) ht) e
  · rintro ⟨h0, h1⟩
    refine ⟨i, hi, ?_, ?_⟩ <;> simp only <;> rw [svS hl, if_pos rfl] <;> assumption
theorem wr56_x (h : RsI c n N ml x) (y : CoLy c n N ml) {i : Nat} (hi : i < n) (ht : (sv x.st.T i).pc = 10) {a : Nat} : wr56 n x a ↔ (sv x.U i).a = 0 ∧ ((sv x.U i).pc = 5 ∨ (sv x.U i).pc = 6 ∧ x.d.at_ ≤ a) := by
  have hl : i < x.U.length := by rw [h.lU]; exact hi
  have := wr56_own h y hi ht (st' := x.st) (d' := x.d) (p' := sv x.U i) (a := a)
  rw [set_sameR hl rfl] at this
  exact this
theorem wr56_oth (h : RsI c n N ml x) {i : Nat} (hi : i < n) {st' : Co} {p' : Sp} {a : Nat} (h1 : ¬ ((sv x.U i).a = 0 ∧ ((sv x.U i).pc = 5 ∨ (sv x.U i).pc = 6))) (h2 : ¬ (p'.a = 0 ∧ (p'.pc = 5 ∨ p'.pc = 6))) : wr56 n ⟨st', x.d, x.U.set i p'⟩ a ↔ wr56 n x a := by
  have hl : i < x.U.length := by rw [h.lU]; exact hi
  unfold wr56
  constructor
  · rintro ⟨j, hj, q0, q1⟩
    simp only at q0 q1
    rw [svS hl] at q0 q1
    by_cases e : j = i
    · rw [if_pos e] at q0 q1; exact absurd ⟨q0, by omega⟩ h2
    · rw [if_neg e] at q0 q1; exact ⟨j, hj, q0, q1⟩
  · rintro ⟨j, hj, q0, q1⟩
    have e : j ≠ i := fun e => h1 (by rw [← e]; exact ⟨q0, by omega⟩)
    refine ⟨j, hj, ?_, ?_⟩ <;> simp only <;> rw [svS hl, if_neg e] <;> assumption
theorem wr9_own (h : RsI c n N ml x) (y : CoLy c n N ml) {i : Nat} (hi : i < n) (ht : (sv x.st.T i).pc = 10) {st' : Co} {d' : Dr} {p' : Sp} : wr9 n ⟨st', d', x.U.set i p'⟩ ↔ p'.a = 0 ∧ p'.pc = 9 := by
  have hl : i < x.U.length := by rw [h.lU]; exact hi
  unfold wr9
  constructor
  · rintro ⟨j, hj, h0, h1⟩
    simp only at h0 h1
    rw [svS hl] at h0 h1
    by_cases e : j = i
    · rw [if_pos e] at h0 h1; exact ⟨h0, h1⟩
    · rw [if_neg e] at h0 h1
      exact absurd (h.one y hj hi (at10 (h.k j hj) h0 (by omega)) ht) e
  · rintro ⟨h0, h1⟩
    refine ⟨i, hi, ?_, ?_⟩ <;> simp only <;> rw [svS hl, if_pos rfl] <;> assumption
theorem wr9_oth (h : RsI c n N ml x) {i : Nat} (hi : i < n) {st' : Co} {d' : Dr} {p' : Sp} (h1 : ¬ ((sv x.U i).a = 0 ∧ (sv x.U i).pc = 9)) (h2 : ¬ (p'.a = 0 ∧ p'.pc = 9)) : wr9 n ⟨st', d', x.U.set i p'⟩ ↔ wr9 n x := by
  have hl : i < x.U.length := by rw [h.lU]; exact hi
  unfold wr9
  constructor
  · rintro ⟨j, hj, q0, q1⟩
    simp only at q0 q1
    rw [svS hl] at q0 q1
    by_cases e : j = i
    · rw [if_pos e] at q0 q1; exact absurd ⟨q0, q1⟩ h2
    · rw [if_neg e] at q0 q1; exact ⟨j, hj, q0, q1⟩
  · rintro ⟨j, hj, q0, q1⟩
    have e : j ≠ i := fun e => h1 (by rw [← e]; exact ⟨q0, q1⟩)
    refine ⟨j, hj, ?_, ?_⟩ <;> simp only <;> rw [svS hl, if_neg e] <;> assumption
theorem rdAny_own {i : Nat} (hl : i < x.U.length) (hi : i < n) {st' : Co} {d' : Dr} {p' : Sp} (h : rdInR p' = true) : rdAny n ⟨st', d', x.U.set i p'⟩ := ⟨i, hi, by simp only; rw [svS hl, if_pos rfl]; exact h⟩
theorem rdAny_same {i : Nat} (hl : i < x.U.length) {st' : Co} {d' : Dr} {p' : Sp} (h : rdInR p' = rdInR (sv x.U i)) : rdAny n ⟨st', d', x.U.set i p'⟩ ↔ rdAny n x := by
  have e : ∀ j, rdInR (sv (x.U.set i p') j) = rdInR (sv x.U j) := fun j => by
    rw [svS hl]
    split
    · rename_i q; rw [q]; exact h
    · rfl
  unfold rdAny
  simp only [e]
theorem chR_eq {x x' : Nu} {a : Nat} (h : wr56 n x' a ↔ wr56 n x a) : chR n N x' a = chR n N x a := by
  unfold chR
  by_cases q : wr56 n x a
  · rw [if_pos q, if_pos (h.2 q)]
  · rw [if_neg q, if_neg (fun e => q (h.1 e))]
theorem chR_le (x : Nu) (a : Nat) : chR n N x a ≤ 4 * N + 4 := by unfold chR; split <;> omega
theorem chR_mono {x x' : Nu} {a : Nat} (h : wr56 n x a → wr56 n x' a) : chR n N x' a ≤ chR n N x a := by
  unfold chR
  split
  · omega
  · rename_i q; rw [if_neg (fun e => q (h e))]; exact Nat.le_refl _
theorem chR_no {a : Nat} (h : ¬ wr56 n x a) : chR n N x a = 4 * N + 4 := by unfold chR; rw [if_neg h]
theorem chR_yes {a : Nat} (h : wr56 n x a) : chR n N x a = 0 := by unfold chR; rw [if_pos h]
theorem glR_le (x : Nu) : glR n N x ≤ 4 * N + 4 := by unfold glR; split <;> omega
theorem glR_no9 (h : ¬ wr9 n x) : glR n N x = 0 := by unfold glR; rw [if_neg (fun q => h q.1)]
theorem glR_rd (h : rdAny n x) : glR n N x = 0 := by unfold glR; rw [if_neg (fun q => q.2.2.2 h)]
theorem glR_s (h : x.d.second = false) : glR n N x = 0 := by unfold glR; rw [if_neg (fun q => by rw [h] at q; exact absurd q.2.1 (by decide))]
theorem glR_eq {x x' : Nu} (h1 : wr9 n x' ↔ wr9 n x) (h2 : x'.d = x.d) (h3 : wr9 n x → ldW x'.st.s.W (gaA x.d.at_) = ldW x.st.s.W (gaA x.d.at_)) (h4 : rdAny n x' ↔ rdAny n x) : glR n N x' = glR n N x := by
  unfold glR
  rw [h2]
  have e : (wr9 n x' ∧ x.d.second = true ∧ ldW x'.st.s.W (gaA x.d.at_) ≠ x.d.out ∧ ¬ rdAny n x') ↔ (wr9 n x ∧ x.d.second = true ∧ ldW x.st.s.W (gaA x.d.at_) ≠ x.d.out ∧ ¬ rdAny n x) :=
    ⟨fun ⟨a, b, c, d⟩ => ⟨h1.1 a, b, by rw [← h3 (h1.1 a)]; exact c, fun r => d (h4.2 r)⟩, fun ⟨a, b, c, d⟩ => ⟨h1.2 a, b, by rw [h3 a]; exact c, fun r => d (h4.1 r)⟩⟩
  by_cases q : wr9 n x ∧ x.d.second = true ∧ ldW x.st.s.W (gaA x.d.at_) ≠ x.d.out ∧ ¬ rdAny n x
  · rw [if_pos q, if_pos (e.2 q)]
  · rw [if_neg q, if_neg (fun w => q (e.1 w))]
theorem on_of {x' : Nu} (hn6 : n ≤ 6) {i : Nat} (hi : i < n) {e G : Nat} (hg : rwt c n N x' i + 1 + 5 * e + G ≤ rwt c n N x i) (ho : ∀ j, j < n → j ≠ i → rwt c n N x' j ≤ rwt c n N x j + e) (hgl : glR n N x' ≤ glR n N x + G) : rF c n N x' < rF c n N x := by
  have h := sumN_one (f := rwt c n N x) (g := rwt c n N x') (e := e) (r := 1 + 5 * e + G) (i := i) (by omega) n hi ho
  have : (n - 1) * e ≤ 5 * e := Nat.mul_le_mul_right e (by omega)
  unfold rF
  omega
theorem rwt_set {st' : Co} {d' : Dr} {p' : Sp} {i : Nat} (hl : i < x.U.length) : rwt c n N ⟨st', d', x.U.set i p'⟩ i = nvR N (chR n N ⟨st', d', x.U.set i p'⟩ (c.node i)) d' (drD d' st'.s.W) p' + cwt c st' i := by
  unfold rwt
  simp only
  rw [svS hl, if_pos rfl]
theorem rwt_oth (h : RsI c n N ml x) {st' : Co} {d' : Dr} {p' : Sp} {i j : Nat} (hi : i < n) (hj : j < n) (hji : j ≠ i) {e1 e2 : Nat} (h1 : cwt c st' j ≤ cwt c x.st j + e1)
    (hc : (sv x.U j).a = 1 → rdInR (sv x.U j) = true → chR n N ⟨st', d', x.U.set i p'⟩ (c.node j) ≤ chR n N x (c.node j)) (h6 : (sv x.U j).a = 0 → (sv x.U j).pc = 6 → drD d' st'.s.W ≤ drD x.d x.st.s.W + e2) (h9 : (sv x.U j).a = 0 → (sv x.U j).pc = 9 → d' = x.d) :
    rwt c n N ⟨st', d', x.U.set i p'⟩ j ≤ rwt c n N x j + (e1 + e2) := by
  have hl : i < x.U.length := by rw [h.lU]; exact hi
  have := nvR_le (N := N) (p := sv x.U j) (ch := chR n N x (c.node j)) (ch' := chR n N ⟨st', d', x.U.set i p'⟩ (c.node j)) (d := x.d) (d' := d') (dd := drD x.d x.st.s.W) (dd' := drD d' st'.s.W) (e := e2) (fun a1 q => hc a1 (by unfold rdInR; exact decide_eq_true ⟨a1, q⟩)) (link3 (h.k j hj)) h6 h9
  unfold rwt
  simp only
  rw [svS hl, if_neg hji]
  omega
/-- a thread's state, and what is left, where only d or words turn that it does not see -/
theorem rwt_same {x x' : Nu} {j : Nat} (hU : x'.U = x.U) (hc : cwt c x'.st j = cwt c x.st j) (hch : chR n N x' (c.node j) = chR n N x (c.node j)) (hD : drD x'.d x'.st.s.W = drD x.d x.st.s.W) (h9 : (sv x.U j).a = 0 → (sv x.U j).pc = 9 → x'.d = x.d) (hl : (sv x.U j).pc = 0 ∨ (sv x.U j).a = 1 ∧ ((sv x.U j).pc = 1 ∨ (sv x.U j).pc = 2 ∨ (sv x.U j).pc = 10 ∨ (sv x.U j).pc = 11) ∨ (sv x.U j).a = 0) : rwt c n N x' j = rwt c n N x j := by
  have a1 := nvR_le (N := N) (p := sv x.U j) (ch := chR n N x (c.node j)) (ch' := chR n N x (c.node j)) (d := x.d) (d' := x'.d) (dd := drD x.d x.st.s.W) (dd' := drD x.d x.st.s.W) (e := 0) (fun _ _ => Nat.le_refl _) hl (fun _ _ => Nat.le_refl _) h9
  have a2 := nvR_le (N := N) (p := sv x.U j) (ch := chR n N x (c.node j)) (ch' := chR n N x (c.node j)) (d := x'.d) (d' := x.d) (dd := drD x.d x.st.s.W) (dd' := drD x.d x.st.s.W) (e := 0) (fun _ _ => Nat.le_refl _) hl (fun _ _ => Nat.le_refl _) (fun q1 q2 => (h9 q1 q2).symm)
  unfold rwt
  rw [hU, hc, hch, hD]
  omega
end
end Go.Proofs.YtmlcfmickonfbaaGreat
end
section
set_option linter.unusedVariables false
set_option linter.unusedSimpArgs false
/- Layer 37 (readers), plain: what each step does to what is left. No program in sight. -/
namespace Go.Proofs.YtmlcfmickonfbaaGreat
open Go

def RGo (c : CoC) (n N : Nat) (x x' : Nu) (i : Nat) : Prop := RsE n N x' ∧ (RWit c N x i → rF c n N x' < rF c n N x) ∧ (¬ RWit c N x i → ROff c n N x x' i)
section
set_option linter.unusedVariables false
variable {c : CoC} {n N L : Nat} {ml : Nat → Nat} {x : Nu} {B : Int}
theorem RsE.upd (h : RsI c n N ml x) (E : RsE n N x) {i : Nat} (hi : i < n) {st' : Co} {d' : Dr} {p' : Sp} {W' : List Int} (hs : st'.s.W = W') (hW : ∀ a, a < N → ldW x.st.s.W (gaW a) ≤ ldW W' (gaW a))
    (hf : ldW W' (nuFl N) ≠ 0 → wrPR p' ∨ (¬ wrPR (sv x.U i) ∧ ldW x.st.s.W (nuFl N) ≠ 0)) (h6 : p'.a = 0 → p'.pc = 6 → D6 N d' W') (ho : ∀ j, j < n → j ≠ i → (sv x.U j).a = 0 → (sv x.U j).pc = 6 → d' = x.d) : RsE n N ⟨st', d', x.U.set i p'⟩ := by
  have hl : i < x.U.length := by rw [h.lU]; exact hi
  subst hs
  refine ⟨fun hne => ?_, fun j hj q0 q1 => ?_⟩
  · rcases hf hne with q | ⟨q1, q2⟩
    · exact ⟨i, hi, by simp only; rw [svS hl, if_pos rfl]; exact q⟩
    · obtain ⟨j, hj, hw⟩ := E.f q2
      exact ⟨j, hj, by simp only; rw [svS hl, if_neg (fun e => q1 (by rw [← e]; exact hw))]; exact hw⟩
  · simp only at q0 q1 ⊢
    rw [svS hl] at q0 q1
    by_cases e : j = i
    · rw [if_pos e] at q0 q1; exact h6 q0 q1
    · rw [if_neg e] at q0 q1
      obtain ⟨r1, r2⟩ := E.d j hj q0 q1
      rw [ho j hj e q0 q1]
      exact ⟨r1, fun s => Int.le_trans (r2 s) (hW _ r1.2.2.1)⟩
theorem alone9 (h : RsI c n N ml x) (y : CoLy c n N ml) {i : Nat} (hi : i < n) (ht : (sv x.st.T i).pc = 10) {j : Nat} (hj : j < n) (hji : j ≠ i) (ha : (sv x.U j).a = 0) (hp : (sv x.U j).pc = 5 ∨ (sv x.U j).pc = 6 ∨ (sv x.U j).pc = 8 ∨ (sv x.U j).pc = 9 ∨ (sv x.U j).pc = 10 ∨ (sv x.U j).pc = 12) : False :=
  hji (h.one y hj hi (at10 (h.k j hj) ha hp) ht)
theorem rsStep_L (h : RsI c n N ml x) (hL : CoL c n N ml x.st) (y : CoLy c n N ml) (l : NuL c N x.st.s.W) (hB : CoB c B x.st) (hB0 : 40 ≤ B) (hB1 : B ≤ 1000000000000) (hm4 : c.m ≤ 4) {i : Nat} (hi : i < n) : CoL c n N ml (rsStep c N x i).st := by
  have hn := (y.nd i hi).1
  have bA := hB.w.ld (by omega) (gaA (c.node i))
  have bW := hB.w.ld (by omega) (gaW (c.node i))
  have lA := low_stR h y l (z := gaA (c.node i)) ⟨(gaA_lt hn).1, by have := (gaA_lt hn).2; omega⟩ (ldW x.st.s.W (gaA (c.node i)) + 1) (s' := addA x.st.s (gaA (c.node i)) 1) (by rw [addA_W, IntWalk.i64_in _ (by omega)])
  have lW := low_stR h y l (z := gaW (c.node i)) ⟨(gaW_lt hn).1, by have := (gaW_lt hn).2; omega⟩ (ldW x.st.s.W (gaW (c.node i)) + 1) (s' := addA x.st.s (gaW (c.node i)) 1) (by rw [addA_W, IntWalk.i64_in _ (by omega)])
  have lF := fun v => low_stR h y l (z := nuFl N) ⟨by unfold nuFl; omega, Int.le_refl _⟩ v (s' := storeA x.st.s (nuFl N) v) (storeA_W _ _ _)
  have LA := hL.low h.m y (s' := addA x.st.s (gaA (c.node i)) 1) (fun q hq => by rw [lA.1, if_neg (by have := (gaA_lt hn).2; have := l.tg; unfold nuFl at *; omega)])
  have LW := hL.low h.m y (s' := addA x.st.s (gaW (c.node i)) 1) (fun q hq => by rw [lW.1, if_neg (by have := (gaW_lt hn).2; have := l.tg; unfold nuFl at *; omega)])
  have LF : ∀ v : Int, CoL c n N ml (onA x.st (storeA x.st.s (nuFl N) v)) := fun v => hL.low h.m y (s' := storeA x.st.s (nuFl N) v) (fun q hq => by rw [(lF v).1, if_neg (by have := l.tg; unfold nuFl; omega)])
  have ST := hL.step h.m y hB (by omega) (by omega) hm4 hi
  unfold rsStep
  split
  · exact hL
  · show CoL c n N ml (rsDoes c N x i (sv x.U i)).1
    unfold rsDoes
    split
    · split
      · exact LA
      split
      · exact hL.same h.m y (loadA_W _ _)
      · exact LW
    split
    · exact ST
    split
    · exact (LF 0).leave (lF 0).2 y hi
    split
    · exact ST
    split
    · exact LF 0
    split
    · exact LF 1
    · exact hL.same h.m y (drStep_W _ _)
theorem rl_gn (h : RsI c n N ml x) {a : Nat} (ha : a < N) : ldW x.st.s.W (gaW a) ≤ ldW x.st.s.W (gaA a) := by have := h.g a ha; omega
theorem rl_1 (h : RsI c n N ml x) (E : RsE n N x) (hL : CoL c n N ml x.st) (y : CoLy c n N ml) (l : NuL c N x.st.s.W) (hB : CoB c B x.st) (hB0 : 40 ≤ B) (hB1 : B ≤ 1000000000000) (hm4 : c.m ≤ 4) (hn6 : n ≤ 6) {i : Nat} (hi : i < n) {b z : Int} (hp : sv x.U i = ⟨1, 1, b, z⟩) (ht : (sv x.st.T i).pc = 0) : RGo c n N x ⟨onA x.st (addA x.st.s (gaA (c.node i)) 1), x.d, x.U.set i ⟨2, 1, b, z⟩⟩ i := by
  have hn := (y.nd i hi).1
  have hl : i < x.U.length := by rw [h.lU]; exact hi
  have bA := hB.w.ld (by omega) (gaA (c.node i))
  have lA := low_stR h y l (z := gaA (c.node i)) ⟨(gaA_lt hn).1, by have := (gaA_lt hn).2; omega⟩ (ldW x.st.s.W (gaA (c.node i)) + 1) (s' := addA x.st.s (gaA (c.node i)) 1) (by rw [addA_W, IntWalk.i64_in _ (by omega)])
  have tgA : ∀ q, c.tg ≤ q → ldW (addA x.st.s (gaA (c.node i)) 1).W q = ldW x.st.s.W q := fun q hq => by rw [lA.1, if_neg (by have := (gaA_lt hn).2; have := l.tg; unfold nuFl at *; omega)]
  have n1 : ¬ ((sv x.U i).a = 0 ∧ ((sv x.U i).pc = 5 ∨ (sv x.U i).pc = 6)) := by rw [hp]; simp
  refine ⟨E.upd h hi rfl (fun a ha => ?_) (fun hne => .inr ⟨?_, ?_⟩) (fun q => by simp at q) (fun _ _ _ _ _ => rfl), fun _ => ?_, fun q => absurd (.inl ⟨by rw [hp], .inl (by rw [hp])⟩) q⟩
  · show _ ≤ ldW (addA x.st.s (gaA (c.node i)) 1).W _
    rw [lA.1, if_neg (by unfold gaA gaW; omega)]; exact Int.le_refl _
  · rw [hp]; unfold wrPR; simp
  · have hne' : ldW (addA x.st.s (gaA (c.node i)) 1).W (nuFl N) ≠ 0 := hne
    rw [lA.1, if_neg (by have := (gaA_lt hn).2; omega)] at hne'
    exact hne'
  · refine on_of hn6 hi (e := 1) (G := 0) ?_ (fun j hj hji => ?_) ?_
    · rw [rwt_set hl, cwt_low h.m y tgA hi, cwt_idle ht]
      have e0 : rwt c n N x i = 4 * N + 18 + 0 := by unfold rwt; rw [hp, cwt_idle ht]; rfl
      have := chR_le (n := n) (N := N) ⟨onA x.st (addA x.st.s (gaA (c.node i)) 1), x.d, x.U.set i ⟨2, 1, b, z⟩⟩ (c.node i)
      rw [e0]
      show 8 + chR n N ⟨onA x.st (addA x.st.s (gaA (c.node i)) 1), x.d, x.U.set i ⟨2, 1, b, z⟩⟩ (c.node i) + 0 + 1 + 5 * 1 + 0 ≤ _
      omega
    · refine rwt_oth h hi hj hji (e1 := 0) (e2 := 1) (by rw [cwt_low h.m y tgA hj]; exact Nat.le_refl _) (fun _ _ => Nat.le_of_eq (chR_eq (wr56_oth h hi n1 (by simp)))) (fun a6 p6 => ?_) (fun _ _ => rfl)
      have ha := (E.d j hj a6 p6).1.2.2.1
      refine drLv_op ?_
      show (ldW (addA x.st.s (gaA (c.node i)) 1).W _ = _ ∧ ldW (addA x.st.s (gaA (c.node i)) 1).W _ = _) ∨ (ldW (addA x.st.s (gaA (c.node i)) 1).W _ = _ ∧ ldW (addA x.st.s (gaA (c.node i)) 1).W _ = _ ∧ _) ∨ (ldW (addA x.st.s (gaA (c.node i)) 1).W _ = _ ∧ ldW (addA x.st.s (gaA (c.node i)) 1).W _ = _ ∧ _)
      rw [lA.1, lA.1]
      by_cases q : x.d.at_ = c.node i
      · right; left
        rw [q, if_pos rfl, if_neg (by unfold gaA gaW; omega)]
        exact ⟨rfl, rfl, rl_gn h hn⟩
      · left
        rw [if_neg (by unfold gaA; omega), if_neg (by unfold gaA gaW; omega)]
        exact ⟨rfl, rfl⟩
    · rw [glR_rd (rdAny_own hl hi rfl)]; omega
theorem rl_2 (h : RsI c n N ml x) (E : RsE n N x) (hL : CoL c n N ml x.st) (y : CoLy c n N ml) (l : NuL c N x.st.s.W) (hB : CoB c B x.st) (hB0 : 40 ≤ B) (hB1 : B ≤ 1000000000000) (hm4 : c.m ≤ 4) (hn6 : n ≤ 6) {i : Nat} (hi : i < n) {b z : Int} (hp : sv x.U i = ⟨2, 1, b, z⟩) (ht : (sv x.st.T i).pc = 0) : RGo c n N x ⟨onA x.st (loadA x.st.s (nuFl N)), x.d, x.U.set i ⟨if ldW x.st.s.W (nuFl N) = 0 then 10 else 2, 1, b, z⟩⟩ i := by
  have hl : i < x.U.length := by rw [h.lU]; exact hi
  have eL : (loadA x.st.s (nuFl N)).W = x.st.s.W := loadA_W _ _
  have n1 : ¬ ((sv x.U i).a = 0 ∧ ((sv x.U i).pc = 5 ∨ (sv x.U i).pc = 6)) := by rw [hp]; simp
  refine ⟨E.upd h hi eL (fun a ha => Int.le_refl _) (fun hne => .inr ⟨by rw [hp]; unfold wrPR; simp, hne⟩) (fun q => by simp at q) (fun _ _ _ _ _ => rfl), fun hw => ?_, fun hw => ?_⟩
  · have hz : ldW x.st.s.W (nuFl N) = 0 := by
      unfold RWit at hw
      rw [hp] at hw
      simpa using hw
    rw [if_pos hz]
    have hch : ∀ a, chR n N ⟨onA x.st (loadA x.st.s (nuFl N)), x.d, x.U.set i ⟨10, 1, b, z⟩⟩ a = chR n N x a := fun a => chR_eq (wr56_oth h hi n1 (by simp))
    refine on_of hn6 hi (e := 0) (G := 0) ?_ (fun j hj hji => ?_) ?_
    · rw [rwt_set hl, (cwt_words eL i).1, cwt_idle ht, hch]
      have e0 : rwt c n N x i = 8 + chR n N x (c.node i) + 0 := by unfold rwt; rw [hp, cwt_idle ht]; rfl
      rw [e0]
      show 7 + chR n N x (c.node i) + 0 + 1 + 5 * 0 + 0 ≤ _
      omega
    · exact rwt_oth h hi hj hji (e1 := 0) (e2 := 0) (by rw [(cwt_words eL j).1]; exact Nat.le_refl _) (fun _ _ => Nat.le_of_eq (hch _)) (fun _ _ => by show drD x.d (loadA _ _).W ≤ _; rw [eL]; exact Nat.le_refl _) (fun _ _ => rfl)
    · rw [glR_rd (rdAny_own hl hi rfl)]; omega
  · have hz : ldW x.st.s.W (nuFl N) ≠ 0 := fun e => hw (.inl ⟨by rw [hp], .inr (.inr (.inr ⟨by rw [hp], e⟩))⟩)
    rw [if_neg hz, set_sameR hl hp.symm]
    have eW : (onA x.st (loadA x.st.s (nuFl N))).s.W = x.st.s.W := eL
    refine ⟨rfl, ?_, fun j hj hji hwj => ?_⟩
    · have s : sumN n (rwt c n N ⟨onA x.st (loadA x.st.s (nuFl N)), x.d, x.U⟩) = sumN n (rwt c n N x) := sumN_eq n (fun j hj => rwt_same (x := x) (x' := ⟨onA x.st (loadA x.st.s (nuFl N)), x.d, x.U⟩) (j := j) rfl (cwt_words eL j).1 (chR_eq Iff.rfl) (by show drD x.d (loadA _ _).W = _; rw [eL]) (fun _ _ => rfl) (link3 (h.k j hj)))
      have s2 : glR n N ⟨onA x.st (loadA x.st.s (nuFl N)), x.d, x.U⟩ = glR n N x := glR_eq (x := x) (x' := ⟨onA x.st (loadA x.st.s (nuFl N)), x.d, x.U⟩) Iff.rfl rfl (fun _ => by show ldW (loadA _ _).W _ = _; rw [eL]) Iff.rfl
      unfold rF
      rw [s, s2]
    · unfold RWit at hwj ⊢
      simp only
      rw [eW]
      rcases hwj with q | ⟨q0, q⟩
      · exact .inl q
      · refine .inr ⟨q0, ?_⟩
        rcases q with q | q | q | q | q | q | q
        · exact .inl q
        · exact .inr (.inl q)
        · exact .inr (.inr (.inl q))
        · exact .inr (.inr (.inr (.inl q)))
        · exact .inr (.inr (.inr (.inr (.inl q))))
        · exact .inr (.inr (.inr (.inr (.inr (.inl q)))))
        · exact .inr (.inr (.inr (.inr (.inr (.inr ⟨q.1, (cwt_words eL j).2 q.2⟩)))))
theorem rl_11 (h : RsI c n N ml x) (E : RsE n N x) (hL : CoL c n N ml x.st) (y : CoLy c n N ml) (l : NuL c N x.st.s.W) (hB : CoB c B x.st) (hB0 : 40 ≤ B) (hB1 : B ≤ 1000000000000) (hm4 : c.m ≤ 4) (hn6 : n ≤ 6) {i : Nat} (hi : i < n) {b z : Int} (hp : sv x.U i = ⟨11, 1, b, z⟩) (ht : (sv x.st.T i).pc = 0) : RGo c n N x ⟨onA x.st (addA x.st.s (gaW (c.node i)) 1), x.d, x.U.set i ⟨0, 1, b, z⟩⟩ i := by
  have hn := (y.nd i hi).1
  have hl : i < x.U.length := by rw [h.lU]; exact hi
  have bW := hB.w.ld (by omega) (gaW (c.node i))
  have lW := low_stR h y l (z := gaW (c.node i)) ⟨(gaW_lt hn).1, by have := (gaW_lt hn).2; omega⟩ (ldW x.st.s.W (gaW (c.node i)) + 1) (s' := addA x.st.s (gaW (c.node i)) 1) (by rw [addA_W, IntWalk.i64_in _ (by omega)])
  have tgW : ∀ q, c.tg ≤ q → ldW (addA x.st.s (gaW (c.node i)) 1).W q = ldW x.st.s.W q := fun q hq => by rw [lW.1, if_neg (by have := (gaW_lt hn).2; have := l.tg; unfold nuFl at *; omega)]
  have n1 : ¬ ((sv x.U i).a = 0 ∧ ((sv x.U i).pc = 5 ∨ (sv x.U i).pc = 6)) := by rw [hp]; simp
  have hin : rdInR (sv x.U i) = true := by rw [hp]; rfl
  have hc : 0 < cntIR c n x.U (c.node i) := cntN_pos (P := fun j => decide (c.node j = c.node i) && rdInR (sv x.U j)) hi (by simp only [Bool.and_eq_true, decide_eq_true_eq]; exact ⟨trivial, hin⟩)
  refine ⟨E.upd h hi rfl (fun a ha => ?_) (fun hne => .inr ⟨?_, ?_⟩) (fun _ q => by simp at q) (fun _ _ _ _ _ => rfl), fun _ => ?_, fun q => absurd (.inl ⟨by rw [hp], .inr (.inr (.inl (by rw [hp])))⟩) q⟩
  · show _ ≤ ldW (addA x.st.s (gaW (c.node i)) 1).W _
    rw [lW.1]
    split
    · rename_i q; rw [q]; omega
    · exact Int.le_refl _
  · rw [hp]; unfold wrPR; simp
  · have hne' : ldW (addA x.st.s (gaW (c.node i)) 1).W (nuFl N) ≠ 0 := hne
    rw [lW.1, if_neg (by have := (gaW_lt hn).2; omega)] at hne'
    exact hne'
  · have oth : ∀ j, j < n → j ≠ i → rwt c n N ⟨onA x.st (addA x.st.s (gaW (c.node i)) 1), x.d, x.U.set i ⟨0, 1, b, z⟩⟩ j ≤ rwt c n N x j + 1 := fun j hj hji => by
      refine rwt_oth h hi hj hji (e1 := 0) (e2 := 1) (by rw [cwt_low h.m y tgW hj]; exact Nat.le_refl _) (fun _ _ => Nat.le_of_eq (chR_eq (wr56_oth h hi n1 (by simp)))) (fun a6 p6 => ?_) (fun _ _ => rfl)
      have ha := (E.d j hj a6 p6).1.2.2.1
      refine drLv_op ?_
      show (ldW (addA x.st.s (gaW (c.node i)) 1).W _ = _ ∧ ldW (addA x.st.s (gaW (c.node i)) 1).W _ = _) ∨ (ldW (addA x.st.s (gaW (c.node i)) 1).W _ = _ ∧ ldW (addA x.st.s (gaW (c.node i)) 1).W _ = _ ∧ _) ∨ (ldW (addA x.st.s (gaW (c.node i)) 1).W _ = _ ∧ ldW (addA x.st.s (gaW (c.node i)) 1).W _ = _ ∧ _)
      rw [lW.1, lW.1]
      by_cases q : x.d.at_ = c.node i
      · right; right
        rw [q, if_neg (by unfold gaA gaW; omega), if_pos rfl]
        exact ⟨rfl, rfl, by have := h.g _ hn; omega⟩
      · left
        rw [if_neg (by unfold gaA gaW; omega), if_neg (by unfold gaW; omega)]
        exact ⟨rfl, rfl⟩
    have e0 : rwt c n N x i = 6 + chR n N x (c.node i) + 0 := by unfold rwt; rw [hp, cwt_idle ht]; rfl
    by_cases w9 : wr9 n x
    · refine on_of hn6 hi (e := 1) (G := 4 * N + 4) ?_ oth (by have := glR_le (n := n) (N := N) ⟨onA x.st (addA x.st.s (gaW (c.node i)) 1), x.d, x.U.set i ⟨0, 1, b, z⟩⟩; omega)
      obtain ⟨k, hk, k0, k9⟩ := w9
      have no : ¬ wr56 n x (c.node i) := fun ⟨j, hj, j0, j1⟩ => by
        have e := h.one y hj hk (at10 (h.k j hj) j0 (by omega)) (at10 (h.k k hk) k0 (by omega))
        subst e
        omega
      rw [e0, chR_no no, rwt_set hl, cwt_low h.m y tgW hi, cwt_idle ht]
      show 0 + 0 + 1 + 5 * 1 + (4 * N + 4) ≤ _
      omega
    · refine on_of hn6 hi (e := 1) (G := 0) ?_ oth ?_
      · rw [e0, rwt_set hl, cwt_low h.m y tgW hi, cwt_idle ht]
        show 0 + 0 + 1 + 5 * 1 + 0 ≤ _
        omega
      · rw [glR_no9 (fun q => w9 ((wr9_oth h hi (by rw [hp]; simp) (by simp)).1 q))]
        omega
end
end Go.Proofs.YtmlcfmickonfbaaGreat
end
section
set_option linter.unusedVariables false
set_option linter.unusedSimpArgs false
/- Layer 37 (readers), plain: what each step of a writer does to what is left. No program in sight. -/
namespace Go.Proofs.YtmlcfmickonfbaaGreat
open Go

section
set_option linter.unusedVariables false
variable {c : CoC} {n N L : Nat} {ml : Nat → Nat} {x : Nu} {B : Int}
/-- the drain that does not wait -/
theorem dr9 {d : Dr} {s : Ar} {N : Nat} (q1 : d.busy = true) (q2 : d.once = true) (q3 : d.at_ < N) (q4 : d.lim = N) :
    (d.second = false ∧ drStep s d = (loadA s (gaW d.at_), { d with out := ldW s.W (gaW d.at_), second := true }, false)) ∨
    (d.second = true ∧ ldW s.W (gaA d.at_) ≠ d.out ∧ drStep s d = (loadA s (gaA d.at_), { d with second := false, busy := false, clear := false }, true)) ∨
    (d.second = true ∧ ldW s.W (gaA d.at_) = d.out ∧ d.at_ + 1 = N ∧ drStep s d = (loadA s (gaA d.at_), { d with second := false, at_ := d.at_ + 1, busy := false, clear := true }, true)) ∨
    (d.second = true ∧ ldW s.W (gaA d.at_) = d.out ∧ d.at_ + 1 < N ∧ drStep s d = (loadA s (gaA d.at_), { d with second := false, at_ := d.at_ + 1 }, false)) := by
  unfold drStep
  rw [if_pos q1]
  cases hs : d.second
  · left
    exact ⟨rfl, by simp⟩
  · right
    rw [if_pos rfl]
    unfold drLast
    by_cases hv : ldW s.W (gaA d.at_) = d.out
    · rw [if_neg (fun e => e hv)]
      by_cases he : d.at_ + 1 = d.lim
      · right; left
        rw [if_pos he]
        exact ⟨rfl, hv, by omega, rfl⟩
      · right; right
        rw [if_neg he]
        exact ⟨rfl, hv, by omega, rfl⟩
    · left
      rw [if_pos hv, if_pos q2]
      exact ⟨rfl, hv, rfl⟩
theorem rl_co (h : RsI c n N ml x) (E : RsE n N x) (hL : CoL c n N ml x.st) (y : CoLy c n N ml) (l : NuL c N x.st.s.W) (hB : CoB c B x.st) (hB0 : 40 ≤ B) (hB1 : B ≤ 1000000000000) (hm4 : c.m ≤ 4) (hn6 : n ≤ 6) {i : Nat} (hi : i < n) {b z : Int} {pc yes : Int} (hp : sv x.U i = ⟨pc, 0, b, z⟩) (hpc : pc = 7 ∧ yes = 8 ∨ pc = 13 ∧ yes = 0) (t0 : (sv x.st.T i).pc ≠ 0) (t10 : (sv x.st.T i).pc ≠ 10) : RGo c n N x ⟨coStep c x.st i, x.d, x.U.set i ⟨if cameK (sv x.st.T i) (sv (coStep c x.st i).T i) then yes else pc, 0, b, z⟩⟩ i := by
  have hl : i < x.U.length := by rw [h.lU]; exact hi
  have hn := (y.nd i hi).1
  have lS := h.m.stepLow y hB (by omega) (by omega) hi
  have cg := co_go h.m hL y hB (by omega) (by omega) hm4 hi ⟨t0, t10⟩
  have tgl := l.tg
  have n1 : ¬ ((sv x.U i).a = 0 ∧ ((sv x.U i).pc = 5 ∨ (sv x.U i).pc = 6)) := by rw [hp]; simp only; omega
  have n9 : ¬ ((sv x.U i).a = 0 ∧ (sv x.U i).pc = 9) := by rw [hp]; simp only; omega
  have nf : rdInR (sv x.U i) = false := by rw [hp]; exact decide_eq_false (by simp)
  have eW : RWit c N x i ↔ CWit c x.st i := by
    unfold RWit
    rw [hp]
    simp only
    constructor
    · rintro (q | q)
      · omega
      · rcases q with ⟨_, q | q | q | q | q | q | q⟩
        · omega
        · omega
        · omega
        · omega
        · omega
        · omega
        · exact q.2
    · exact fun q => .inr ⟨trivial, .inr (.inr (.inr (.inr (.inr (.inr ⟨by omega, q⟩)))))⟩
  have lA : ∀ a, a < N → ldW (coStep c x.st i).s.W (gaA a) = ldW x.st.s.W (gaA a) := fun a ha => lS _ (by have := (gaA_lt ha).2; unfold nuFl at this; omega)
  have lW : ∀ a, a < N → ldW (coStep c x.st i).s.W (gaW a) = ldW x.st.s.W (gaW a) := fun a ha => lS _ (by have := (gaW_lt ha).2; unfold nuFl at this; omega)
  have lFl : ldW (coStep c x.st i).s.W (nuFl N) = ldW x.st.s.W (nuFl N) := lS _ (by unfold nuFl; omega)
  have gl : ∀ p' : Sp, ¬ (p'.a = 0 ∧ p'.pc = 9) → rdInR p' = false → glR n N ⟨coStep c x.st i, x.d, x.U.set i p'⟩ = glR n N x := fun p' h9 hr => by
    refine glR_eq (x := x) (wr9_oth h hi n9 h9) rfl (fun w9 => ?_) (rdAny_same hl (by rw [hr, nf]))
    obtain ⟨k, hk, k0, k9⟩ := w9
    exact lA _ (h.dr k hk k0 k9).1.2.2.1
  obtain ⟨pc', hpc'⟩ : ∃ v, v = if cameK (sv x.st.T i) (sv (coStep c x.st i).T i) then yes else pc := ⟨_, rfl⟩
  have hv : pc' = yes ∨ pc' = pc := by rw [hpc']; split <;> simp
  have hv2 : pc' = 7 ∨ pc' = 8 ∨ pc' = 13 ∨ pc' = 0 := by omega
  rw [← hpc']
  refine ⟨E.upd h hi rfl (fun a ha => by rw [lW a ha]; exact Int.le_refl _) (fun hne => .inr ⟨by rw [hp]; unfold wrPR; simp only; omega, by rw [← lFl]; exact hne⟩) (fun _ q => by simp only at q; omega) (fun _ _ _ _ _ => rfl), fun hw => ?_, fun hw => ?_⟩
  · obtain ⟨e', _, q1, q2⟩ := cg.1 (eW.1 hw)
    refine on_of hn6 hi (e := e') (G := 0) ?_ (fun j hj hji => ?_) (by rw [gl _ (by simp only; omega) (decide_eq_false (by simp))]; exact Nat.le_refl _)
    · rw [rwt_set hl]
      have e0 : rwt c n N x i = nvR N (chR n N x (c.node i)) x.d (drD x.d x.st.s.W) ⟨pc, 0, b, z⟩ + cwt c x.st i := by unfold rwt; rw [hp]
      rw [e0]
      have hnv : nvR N (chR n N ⟨coStep c x.st i, x.d, x.U.set i ⟨pc', 0, b, z⟩⟩ (c.node i)) x.d (drD x.d (coStep c x.st i).s.W) ⟨pc', 0, b, z⟩ ≤ nvR N (chR n N x (c.node i)) x.d (drD x.d x.st.s.W) ⟨pc, 0, b, z⟩ := by
        rcases hpc with ⟨rfl, rfl⟩ | ⟨rfl, rfl⟩
        · rcases hv with rfl | rfl
          · show 2 * N + 6 ≤ 2 * N + 7; omega
          · show 2 * N + 7 ≤ 2 * N + 7; omega
        · rcases hv with rfl | rfl
          · show 0 ≤ 1; omega
          · show 1 ≤ 1; omega
      omega
    · have := rwt_oth h hi hj hji (st' := coStep c x.st i) (d' := x.d) (p' := ⟨pc', 0, b, z⟩) (e1 := e') (e2 := 0) (q2 j hj hji) (fun _ _ => Nat.le_of_eq (chR_eq (wr56_oth h hi n1 (by simp only; omega)))) (fun a6 p6 => by
        have ha := (E.d j hj a6 p6).1.2.2.1
        rw [drLv_same (lA _ ha) (lW _ ha)]; exact Nat.le_refl _) (fun _ _ => rfl)
      exact this
  · obtain ⟨q1, q2, q3, q4⟩ := cg.2 (fun q => hw (eW.2 q))
    have hb : cameK (sv x.st.T i) (sv (coStep c x.st i).T i) = false := by
      unfold cameK
      rw [q2 i]
      exact decide_eq_false (fun q => by omega)
    rw [hb] at hpc'
    have hpc2 : pc' = pc := hpc'
    rw [hpc2, set_sameR hl hp.symm]
    have ch : ∀ a, chR n N ⟨coStep c x.st i, x.d, x.U⟩ a = chR n N x a := fun a => chR_eq Iff.rfl
    refine ⟨rfl, ?_, fun j hj hji hwj => ?_⟩
    · have s : sumN n (rwt c n N ⟨coStep c x.st i, x.d, x.U⟩) = sumN n (rwt c n N x) := sumN_eq n (fun j hj => by
        refine rwt_same (x := x) (x' := ⟨coStep c x.st i, x.d, x.U⟩) (j := j) rfl ?_ (ch _) (by show drD x.d (coStep c x.st i).s.W = _; rw [q1]) (fun _ _ => rfl) (link3 (h.k j hj))
        by_cases e : j = i
        · rw [e]; exact q3
        · exact (q4 j hj e).1)
      have s2 : glR n N ⟨coStep c x.st i, x.d, x.U⟩ = glR n N x := glR_eq (x := x) (x' := ⟨coStep c x.st i, x.d, x.U⟩) Iff.rfl rfl (fun _ => by show ldW (coStep c x.st i).s.W _ = _; rw [q1]) Iff.rfl
      unfold rF
      rw [s, s2]
    · unfold RWit at hwj ⊢
      simp only
      rw [q1]
      rcases hwj with q | ⟨q0, q⟩
      · exact .inl q
      · refine .inr ⟨q0, ?_⟩
        rcases q with q | q | q | q | q | q | q
        · exact .inl q
        · exact .inr (.inl q)
        · exact .inr (.inr (.inl q))
        · exact .inr (.inr (.inr (.inl q)))
        · exact .inr (.inr (.inr (.inr (.inl q))))
        · exact .inr (.inr (.inr (.inr (.inr (.inl q)))))
        · exact .inr (.inr (.inr (.inr (.inr (.inr ⟨q.1, (q4 j hj hji).2 q.2⟩)))))
theorem rl_12 (h : RsI c n N ml x) (E : RsE n N x) (hL : CoL c n N ml x.st) (y : CoLy c n N ml) (l : NuL c N x.st.s.W) (hB : CoB c B x.st) (hB0 : 40 ≤ B) (hB1 : B ≤ 1000000000000) (hm4 : c.m ≤ 4) (hn6 : n ≤ 6) {i : Nat} (hi : i < n) {b z : Int} (hp : sv x.U i = ⟨12, 0, b, z⟩) (ht : (sv x.st.T i).pc = 10) : RGo c n N x ⟨coLeave (onA x.st (storeA x.st.s (nuFl N) 0)) i, x.d, x.U.set i ⟨13, 0, b, z⟩⟩ i := by
  have hl : i < x.U.length := by rw [h.lU]; exact hi
  have hn := (y.nd i hi).1
  have lF := fun v => low_stR h y l (z := nuFl N) ⟨by unfold nuFl; omega, Int.le_refl _⟩ v (s' := storeA x.st.s (nuFl N) v) (storeA_W _ _ _)
  have tgF : ∀ v : Int, ∀ q, c.tg ≤ q → ldW (storeA x.st.s (nuFl N) v).W q = ldW x.st.s.W q := fun v q hq => by rw [(lF v).1, if_neg (by have := l.tg; unfold nuFl; omega)]
  have LF : ∀ v : Int, CoL c n N ml (onA x.st (storeA x.st.s (nuFl N) v)) := fun v => hL.low h.m y (tgF v)
  have gF : ∀ (v : Int) (a : Nat), a < N → ldW x.st.s.W (gaW a) ≤ ldW (storeA x.st.s (nuFl N) v).W (gaW a) := fun v a ha => by rw [(lF v).1, if_neg (by have := (gaW_lt ha).2; omega)]; exact Int.le_refl _
  have fF : ∀ v : Int, ldW (storeA x.st.s (nuFl N) v).W (nuFl N) = v := fun v => by rw [(lF v).1, if_pos rfl]
  have hs := coLeave_s (onA x.st (storeA x.st.s (nuFl N) 0)) i
  have CA := coLeave_cwt (lF 0).2 (LF 0) y hi ht
  refine ⟨E.upd h hi (W' := (storeA x.st.s (nuFl N) 0).W) (by rw [hs]; rfl) (gF 0) (fun hne => absurd (fF 0) hne) (fun _ q => by simp at q) (fun j hj hji a6 p6 => (alone9 h y hi ht hj hji a6 (by omega)).elim), fun _ => ?_, fun q => absurd (.inr ⟨by rw [hp], by rw [hp]; simp⟩) q⟩
  refine on_of hn6 hi (e := 0) (G := 0) ?_ (fun j hj hji => ?_) (by rw [glR_no9 (fun q => by have := (wr9_own h y hi ht).1 q; simp at this)]; omega)
  · have e0 : rwt c n N x i = 2 + 13 := by unfold rwt; rw [hp, cwt_hold ht]; rfl
    rw [rwt_set hl, CA.2, e0]
    show 1 + 12 + 1 + 5 * 0 + 0 ≤ 2 + 13
    decide
  · refine rwt_oth h hi hj hji (e1 := 0) (e2 := 0) ?_ (fun _ _ => chR_mono (fun q => ?_)) (fun a6 p6 => (alone9 h y hi ht hj hji a6 (by omega)).elim) (fun a9 p9 => (alone9 h y hi ht hj hji a9 (by omega)).elim)
    · have := CA.1 j hj hji
      rw [cwt_low h.m y (tgF 0) hj] at this
      exact this
    · have := (wr56_x h y hi ht).1 q
      rw [hp] at this
      simp at this
theorem rl_5 (h : RsI c n N ml x) (E : RsE n N x) (hL : CoL c n N ml x.st) (y : CoLy c n N ml) (l : NuL c N x.st.s.W) (hB : CoB c B x.st) (hB0 : 40 ≤ B) (hB1 : B ≤ 1000000000000) (hm4 : c.m ≤ 4) (hn6 : n ≤ 6) {i : Nat} (hi : i < n) {b z : Int} (hp : sv x.U i = ⟨5, 0, b, z⟩) (ht : (sv x.st.T i).pc = 10) : RGo c n N x ⟨onA x.st (storeA x.st.s (nuFl N) 0), drBeg x.d N false, x.U.set i ⟨6, 0, b, z⟩⟩ i := by
  have hl : i < x.U.length := by rw [h.lU]; exact hi
  have hn := (y.nd i hi).1
  have lF := fun v => low_stR h y l (z := nuFl N) ⟨by unfold nuFl; omega, Int.le_refl _⟩ v (s' := storeA x.st.s (nuFl N) v) (storeA_W _ _ _)
  have tgF : ∀ v : Int, ∀ q, c.tg ≤ q → ldW (storeA x.st.s (nuFl N) v).W q = ldW x.st.s.W q := fun v q hq => by rw [(lF v).1, if_neg (by have := l.tg; unfold nuFl; omega)]
  have LF : ∀ v : Int, CoL c n N ml (onA x.st (storeA x.st.s (nuFl N) v)) := fun v => hL.low h.m y (tgF v)
  have gF : ∀ (v : Int) (a : Nat), a < N → ldW x.st.s.W (gaW a) ≤ ldW (storeA x.st.s (nuFl N) v).W (gaW a) := fun v a ha => by rw [(lF v).1, if_neg (by have := (gaW_lt ha).2; omega)]; exact Int.le_refl _
  have fF : ∀ v : Int, ldW (storeA x.st.s (nuFl N) v).W (nuFl N) = v := fun v => by rw [(lF v).1, if_pos rfl]
  refine ⟨E.upd h hi (W' := (storeA x.st.s (nuFl N) 0).W) rfl (gF 0) (fun hne => absurd (fF 0) hne) (fun _ _ => ⟨⟨rfl, rfl, by show 0 < N; omega, rfl⟩, fun q => by unfold drBeg at q; simp at q⟩) (fun j hj hji a6 p6 => (alone9 h y hi ht hj hji a6 (by omega)).elim), fun _ => ?_, fun q => absurd (.inr ⟨by rw [hp], by rw [hp]; simp⟩) q⟩
  refine on_of hn6 hi (e := 0) (G := 0) ?_ (fun j hj hji => ?_) (by rw [glR_no9 (fun q => by have := (wr9_own h y hi ht).1 q; simp at this)]; omega)
  · have e0 : rwt c n N x i = 4 * N + 9 + 13 := by unfold rwt; rw [hp, cwt_hold ht]; rfl
    have d1 : drD (drBeg x.d N false) (storeA x.st.s (nuFl N) 0).W ≤ 2 * N + 1 := by
      unfold drD drLv drBeg
      simp only [Bool.false_eq_true, if_false]
      split <;> omega
    rw [rwt_set hl, cwt_low h.m y (tgF 0) hi, cwt_hold ht, e0]
    show 2 * N + 7 + drD (drBeg x.d N false) (storeA x.st.s (nuFl N) 0).W + 13 + 1 + 5 * 0 + 0 ≤ _
    omega
  · exact rwt_oth h hi hj hji (e1 := 0) (e2 := 0) (by rw [cwt_low h.m y (tgF 0) hj]; exact Nat.le_refl _) (fun _ _ => chR_mono (fun q => (wr56_own h y hi ht).2 ⟨rfl, .inr ⟨rfl, Nat.zero_le _⟩⟩)) (fun a6 p6 => (alone9 h y hi ht hj hji a6 (by omega)).elim) (fun a9 p9 => (alone9 h y hi ht hj hji a9 (by omega)).elim)
theorem rl_8 (h : RsI c n N ml x) (E : RsE n N x) (hL : CoL c n N ml x.st) (y : CoLy c n N ml) (l : NuL c N x.st.s.W) (hB : CoB c B x.st) (hB0 : 40 ≤ B) (hB1 : B ≤ 1000000000000) (hm4 : c.m ≤ 4) (hn6 : n ≤ 6) {i : Nat} (hi : i < n) {b z : Int} (hp : sv x.U i = ⟨8, 0, b, z⟩) (ht : (sv x.st.T i).pc = 10) : RGo c n N x ⟨onA x.st (storeA x.st.s (nuFl N) 1), drBeg x.d N true, x.U.set i ⟨9, 0, b, z⟩⟩ i := by
  have hl : i < x.U.length := by rw [h.lU]; exact hi
  have hn := (y.nd i hi).1
  have lF := fun v => low_stR h y l (z := nuFl N) ⟨by unfold nuFl; omega, Int.le_refl _⟩ v (s' := storeA x.st.s (nuFl N) v) (storeA_W _ _ _)
  have tgF : ∀ v : Int, ∀ q, c.tg ≤ q → ldW (storeA x.st.s (nuFl N) v).W q = ldW x.st.s.W q := fun v q hq => by rw [(lF v).1, if_neg (by have := l.tg; unfold nuFl; omega)]
  have LF : ∀ v : Int, CoL c n N ml (onA x.st (storeA x.st.s (nuFl N) v)) := fun v => hL.low h.m y (tgF v)
  have gF : ∀ (v : Int) (a : Nat), a < N → ldW x.st.s.W (gaW a) ≤ ldW (storeA x.st.s (nuFl N) v).W (gaW a) := fun v a ha => by rw [(lF v).1, if_neg (by have := (gaW_lt ha).2; omega)]; exact Int.le_refl _
  have fF : ∀ v : Int, ldW (storeA x.st.s (nuFl N) v).W (nuFl N) = v := fun v => by rw [(lF v).1, if_pos rfl]
  refine ⟨E.upd h hi (W' := (storeA x.st.s (nuFl N) 1).W) rfl (gF 1) (fun _ => .inl ⟨rfl, .inr (.inl rfl)⟩) (fun _ q => by simp at q) (fun j hj hji a6 p6 => (alone9 h y hi ht hj hji a6 (by omega)).elim), fun _ => ?_, fun q => absurd (.inr ⟨by rw [hp], by rw [hp]; simp⟩) q⟩
  refine on_of hn6 hi (e := 0) (G := 0) ?_ (fun j hj hji => ?_) (by rw [glR_s rfl]; omega)
  · have e0 : rwt c n N x i = 2 * N + 6 + 13 := by unfold rwt; rw [hp, cwt_hold ht]; rfl
    rw [rwt_set hl, cwt_low h.m y (tgF 1) hi, cwt_hold ht, e0]
    show 4 + 2 * (N - 0) + 1 + 13 + 1 + 5 * 0 + 0 ≤ _
    omega
  · refine rwt_oth h hi hj hji (e1 := 0) (e2 := 0) (by rw [cwt_low h.m y (tgF 1) hj]; exact Nat.le_refl _) (fun _ _ => chR_mono (fun q => ?_)) (fun a6 p6 => (alone9 h y hi ht hj hji a6 (by omega)).elim) (fun a9 p9 => (alone9 h y hi ht hj hji a9 (by omega)).elim)
    have := (wr56_x h y hi ht).1 q
    rw [hp] at this
    simp at this
end
end Go.Proofs.YtmlcfmickonfbaaGreat
end
section
set_option linter.unusedVariables false
set_option linter.unusedSimpArgs false
/- Layer 37 (readers), plain: the drains of a writer. No program in sight. -/
namespace Go.Proofs.YtmlcfmickonfbaaGreat
open Go

section
set_option linter.unusedVariables false
variable {c : CoC} {n N L : Nat} {ml : Nat → Nat} {x : Nu} {B : Int}
/-- a step of a drain that waits -/
theorem dr6 {d : Dr} {s : Ar} {N : Nat} (q : D6 N d s.W) : (drStep s d).2.2 = false ∧ ((drStep s d).2.1.at_ = d.at_ ∨ (drStep s d).2.1.at_ = d.at_ + 1) ∧ D6 N (drStep s d).2.1 s.W ∨ (drStep s d).2.2 = true ∧ d.at_ + 1 = N := by
  obtain ⟨⟨q1, q2, q3, q4⟩, q5⟩ := q
  unfold drStep
  rw [if_pos q1]
  cases hs : d.second
  · left
    rw [if_neg (by decide)]
    exact ⟨rfl, .inl rfl, ⟨q1, q2, q3, q4⟩, fun _ => Int.le_refl _⟩
  · rw [if_pos rfl]
    unfold drLast
    by_cases hv : ldW s.W (gaA d.at_) = d.out
    · rw [if_neg (fun e => e hv)]
      by_cases he : d.at_ + 1 = d.lim
      · right
        rw [if_pos he]
        exact ⟨rfl, by omega⟩
      · left
        rw [if_neg he]
        exact ⟨rfl, .inr rfl, ⟨q1, q2, by show d.at_ + 1 < N; omega, q4⟩, fun e => by simp at e⟩
    · left
      rw [if_pos hv, q2]
      exact ⟨rfl, .inl rfl, ⟨q1, rfl, q3, q4⟩, fun e => by simp at e⟩
theorem nvR_pay {N dd dd' : Nat} {d d' : Dr} {p : Sp} (ha : p.a = 1) (hp : p.pc = 2 ∨ p.pc = 10 ∨ p.pc = 11) : nvR N 0 d' dd' p + (4 * N + 4) ≤ nvR N (4 * N + 4) d dd p := by
  obtain ⟨pc, u, b, w⟩ := p
  simp only at ha hp
  subst ha
  rcases hp with rfl | rfl | rfl
  · show 8 + 0 + (4 * N + 4) ≤ 8 + (4 * N + 4); omega
  · show 7 + 0 + (4 * N + 4) ≤ 7 + (4 * N + 4); omega
  · show 6 + 0 + (4 * N + 4) ≤ 6 + (4 * N + 4); omega
theorem none_at (h : RsI c n N ml x) {a : Nat} (ha : a < N) (e : ldW x.st.s.W (gaA a) = ldW x.st.s.W (gaW a)) {j : Nat} (hj : j < n) (hr : rdInR (sv x.U j) = true) : c.node j ≠ a := fun q => by
  have hg := h.g a ha
  have : 0 < cntIR c n x.U a := cntN_pos (P := fun j => decide (c.node j = a) && rdInR (sv x.U j)) hj (by simp only [Bool.and_eq_true, decide_eq_true_eq]; exact ⟨q, hr⟩)
  omega
theorem some_at (h : RsI c n N ml x) {a : Nat} (ha : a < N) (e : ldW x.st.s.W (gaA a) ≠ ldW x.st.s.W (gaW a)) : ∃ j, j < n ∧ c.node j = a ∧ rdInR (sv x.U j) = true := by
  have hg := h.g a ha
  obtain ⟨j, hj, hb⟩ := cntN_exL (P := fun j => decide (c.node j = a) && rdInR (sv x.U j)) n (by unfold cntIR at hg; omega)
  simp only [Bool.and_eq_true, decide_eq_true_eq] at hb
  exact ⟨j, hj, hb.1, hb.2⟩
theorem rl_6 (h : RsI c n N ml x) (E : RsE n N x) (hL : CoL c n N ml x.st) (y : CoLy c n N ml) (l : NuL c N x.st.s.W) (hB : CoB c B x.st) (hB0 : 40 ≤ B) (hB1 : B ≤ 1000000000000) (hm4 : c.m ≤ 4) (hn6 : n ≤ 6) {i : Nat} (hi : i < n) {b z : Int} (hp : sv x.U i = ⟨6, 0, b, z⟩) (ht : (sv x.st.T i).pc = 10) : RGo c n N x ⟨onA x.st (drStep x.st.s x.d).1, (drStep x.st.s x.d).2.1, x.U.set i ⟨if (drStep x.st.s x.d).2.2 = false then 6 else 8, 0, b, z⟩⟩ i := by
  have hl : i < x.U.length := by rw [h.lU]; exact hi
  have hn := (y.nd i hi).1
  have hD := E.d i hi (by rw [hp]) (by rw [hp])
  have hD' := hD
  obtain ⟨⟨d1, d2, d3, d4⟩, d5⟩ := hD'
  have hW := drStep_W x.st.s x.d
  have DS := drD_step (s := x.st.s) d1 d2 d3 d4 d5 (rl_gn h d3)
  have D := dr6 hD
  have alone : ∀ j, j < n → j ≠ i → (sv x.U j).a = 0 → ((sv x.U j).pc = 6 ∨ (sv x.U j).pc = 9) → False := fun j hj hji a0 p => alone9 h y hi ht hj hji a0 (by omega)
  have eN : RWit c N x i ↔ ldW x.st.s.W (gaA x.d.at_) = ldW x.st.s.W (gaW x.d.at_) := by unfold RWit; rw [hp]; simp
  have e0 : rwt c n N x i = 2 * N + 7 + drD x.d x.st.s.W + 13 := by unfold rwt; rw [hp, cwt_hold ht]; rfl
  obtain ⟨dn, hdn⟩ : ∃ v, v = (drStep x.st.s x.d).2.2 := ⟨_, rfl⟩
  obtain ⟨dd, hdd⟩ : ∃ v, v = (drStep x.st.s x.d).2.1 := ⟨_, rfl⟩
  obtain ⟨s', hs'⟩ : ∃ v, v = (drStep x.st.s x.d).1 := ⟨_, rfl⟩
  rw [← hs'] at hW
  rw [← hdn, ← hdd] at DS D
  rw [← hdn, ← hdd, ← hs']
  refine ⟨E.upd h hi (W' := x.st.s.W) hW (fun _ _ => Int.le_refl _) (fun hne => .inr ⟨by rw [hp]; unfold wrPR; simp, hne⟩) (fun _ q => ?_) (fun j hj hji a6 p6 => (alone j hj hji a6 (.inl p6)).elim), fun hw => ?_, fun hw => ?_⟩
  · rcases D with ⟨q1, q2, q3⟩ | ⟨q1, q2⟩
    · exact q3
    · rw [q1] at q; simp at q
  · have hio := eN.1 hw
    refine on_of hn6 hi (e := 0) (G := 0) ?_ (fun j hj hji => ?_) (by rw [glR_no9 (fun q => by have := ((wr9_own h y hi ht).1 q).2; simp only at this; split at this <;> omega)]; omega)
    · rw [rwt_set hl, (cwt_words hW i).1, cwt_hold ht, e0]
      cases dn
      · show 2 * N + 7 + drD dd s'.W + 13 + 1 + 5 * 0 + 0 ≤ _
        rw [hW]
        rcases DS.1 hio with q | q
        · omega
        · exact absurd q.1 (by decide)
      · show 2 * N + 6 + 13 + 1 + 5 * 0 + 0 ≤ _
        omega
    · refine rwt_oth h hi hj hji (e1 := 0) (e2 := 0) (by rw [(cwt_words hW j).1]; exact Nat.le_refl _) (fun _ hr => chR_mono (fun q => ?_)) (fun a6 p6 => (alone j hj hji a6 (.inl p6)).elim) (fun a9 p9 => (alone j hj hji a9 (.inr p9)).elim)
      have hat := (wr56_x h y hi ht).1 q
      rw [hp] at hat
      have hat2 : x.d.at_ ≤ c.node j := by
        rcases hat.2 with q | q
        · simp at q
        · exact q.2
      have hne := none_at h d3 hio hj hr
      have hnj := (y.nd j hj).1
      rcases D with ⟨q1, q2, q3⟩ | ⟨q1, q2⟩
      · exact (wr56_own h y hi ht).2 ⟨rfl, .inr ⟨by rw [q1]; rfl, by omega⟩⟩
      · omega
  · have hio : ldW x.st.s.W (gaA x.d.at_) ≠ ldW x.st.s.W (gaW x.d.at_) := fun q => hw (eN.2 q)
    obtain ⟨q1, q2, q3⟩ := DS.2.1 hio
    have eU : x.U.set i ⟨if dn = false then 6 else 8, 0, b, z⟩ = x.U := by
      rw [q1]
      exact set_sameR hl hp.symm
    rw [eU]
    have h9 : ∀ j, j < n → (sv x.U j).a = 0 → (sv x.U j).pc ≠ 9 := fun j hj a0 p9 => by
      by_cases e : j = i
      · rw [e, hp] at p9; simp at p9
      · exact alone j hj e a0 (.inr p9)
    have ch : ∀ a, chR n N ⟨onA x.st s', dd, x.U⟩ a = chR n N x a := fun a => chR_eq (by unfold wr56; simp only [q3])
    refine ⟨rfl, ?_, fun j hj hji hwj => ?_⟩
    · have s : sumN n (rwt c n N ⟨onA x.st s', dd, x.U⟩) = sumN n (rwt c n N x) := sumN_eq n (fun j hj => rwt_same (x := x) (x' := ⟨onA x.st s', dd, x.U⟩) (j := j) rfl (cwt_words hW j).1 (ch _) (by show drD dd s'.W = _; rw [hW]; exact q2) (fun a0 p9 => absurd p9 (h9 j hj a0)) (link3 (h.k j hj)))
      have s2 : glR n N ⟨onA x.st s', dd, x.U⟩ = glR n N x := (glR_no9 (x := ⟨onA x.st s', dd, x.U⟩) (fun ⟨j, hj, a0, p9⟩ => h9 j hj a0 p9)).trans (glR_no9 (x := x) (fun ⟨j, hj, a0, p9⟩ => h9 j hj a0 p9)).symm
      unfold rF
      rw [s, s2]
    · have eW : (onA x.st s').s.W = x.st.s.W := hW
      unfold RWit at hwj ⊢
      simp only
      rw [eW, q3]
      rcases hwj with q | ⟨q0, q⟩
      · exact .inl q
      · refine .inr ⟨q0, ?_⟩
        rcases q with q | q | q | q | q | q | q
        · exact .inl q
        · exact .inr (.inl q)
        · exact .inr (.inr (.inl q))
        · exact .inr (.inr (.inr (.inl q)))
        · exact .inr (.inr (.inr (.inr (.inl q))))
        · exact .inr (.inr (.inr (.inr (.inr (.inl q)))))
        · exact .inr (.inr (.inr (.inr (.inr (.inr ⟨q.1, (cwt_words hW j).2 q.2⟩)))))
theorem rl_9 (h : RsI c n N ml x) (E : RsE n N x) (hL : CoL c n N ml x.st) (y : CoLy c n N ml) (l : NuL c N x.st.s.W) (hB : CoB c B x.st) (hB0 : 40 ≤ B) (hB1 : B ≤ 1000000000000) (hm4 : c.m ≤ 4) (hn6 : n ≤ 6) {i : Nat} (hi : i < n) {b z : Int} (hp : sv x.U i = ⟨9, 0, b, z⟩) (ht : (sv x.st.T i).pc = 10) : RGo c n N x ⟨onA x.st (drStep x.st.s x.d).1, (drStep x.st.s x.d).2.1, x.U.set i ⟨if (drStep x.st.s x.d).2.2 = false then 9 else if (drStep x.st.s x.d).2.1.clear = true then 10 else 5, 0, b, z⟩⟩ i := by
  have hl : i < x.U.length := by rw [h.lU]; exact hi
  have hn := (y.nd i hi).1
  obtain ⟨⟨d1, d2, d3, d4⟩, d5, d6⟩ := h.dr i hi (by rw [hp]) (by rw [hp])
  have hW := drStep_W x.st.s x.d
  have alone : ∀ j, j < n → j ≠ i → (sv x.U j).a = 0 → ((sv x.U j).pc = 6 ∨ (sv x.U j).pc = 9) → False := fun j hj hji a0 p => alone9 h y hi ht hj hji a0 (by omega)
  have n56 : ∀ a, ¬ wr56 n x a := fun a q => by
    have := (wr56_x h y hi ht).1 q
    rw [hp] at this
    simp at this
  have e0 : rwt c n N x i = 4 + 2 * (x.d.lim - x.d.at_) + (if x.d.second = true then 0 else 1) + 13 := by unfold rwt; rw [hp, cwt_hold ht]; rfl
  have D := dr9 (s := x.st.s) d1 d2 d3 d4
  obtain ⟨dn, hdn⟩ : ∃ v, v = (drStep x.st.s x.d).2.2 := ⟨_, rfl⟩
  obtain ⟨dd, hdd⟩ : ∃ v, v = (drStep x.st.s x.d).2.1 := ⟨_, rfl⟩
  obtain ⟨s', hs'⟩ : ∃ v, v = (drStep x.st.s x.d).1 := ⟨_, rfl⟩
  rw [← hs'] at hW
  have D2 : (x.d.second = false ∧ dd = { x.d with out := ldW x.st.s.W (gaW x.d.at_), second := true } ∧ dn = false) ∨
    (x.d.second = true ∧ ldW x.st.s.W (gaA x.d.at_) ≠ x.d.out ∧ dd = { x.d with second := false, busy := false, clear := false } ∧ dn = true) ∨
    (x.d.second = true ∧ x.d.at_ + 1 = N ∧ dd = { x.d with second := false, at_ := x.d.at_ + 1, busy := false, clear := true } ∧ dn = true) ∨
    (x.d.second = true ∧ x.d.at_ + 1 < N ∧ dd = { x.d with second := false, at_ := x.d.at_ + 1 } ∧ dn = false) := by
    rcases D with ⟨q1, q2⟩ | ⟨q1, q2, q3⟩ | ⟨q1, q2, q3, q4⟩ | ⟨q1, q2, q3, q4⟩
    · rw [q2] at hdn hdd; exact .inl ⟨q1, hdd, hdn⟩
    · rw [q3] at hdn hdd; exact .inr (.inl ⟨q1, q2, hdd, hdn⟩)
    · rw [q4] at hdn hdd; exact .inr (.inr (.inl ⟨q1, q3, hdd, hdn⟩))
    · rw [q4] at hdn hdd; exact .inr (.inr (.inr ⟨q1, q3, hdd, hdn⟩))
  rw [← hdn, ← hdd, ← hs']
  clear D hdn hdd hs'
  have ne6 : (if dn = false then (9 : Int) else if dd.clear = true then 10 else 5) ≠ 6 := by (repeat' split) <;> omega
  have w9 : (if dn = false then (9 : Int) else if dd.clear = true then 10 else 5) = 5 ∨ (if dn = false then (9 : Int) else if dd.clear = true then 10 else 5) = 9 ∨ (if dn = false then (9 : Int) else if dd.clear = true then 10 else 5) = 10 := by (repeat' split) <;> omega
  refine ⟨E.upd h hi (W' := x.st.s.W) hW (fun _ _ => Int.le_refl _) (fun hne => .inl ⟨rfl, by show (if dn = false then (9 : Int) else if dd.clear = true then 10 else 5) = 5 ∨ _; rcases w9 with q | q | q <;> simp only [q] <;> simp⟩) (fun _ q => absurd q ne6) (fun j hj hji a6 p6 => (alone j hj hji a6 (.inl p6)).elim), fun _ => ?_, fun q => absurd (.inr ⟨by rw [hp], by rw [hp]; simp⟩) q⟩
  have oth : ∀ j, j < n → j ≠ i → ∀ p' : Sp, rwt c n N ⟨onA x.st s', dd, x.U.set i p'⟩ j ≤ rwt c n N x j + 0 := fun j hj hji p' => by
    exact rwt_oth h hi hj hji (e1 := 0) (e2 := 0) (by rw [(cwt_words hW j).1]; exact Nat.le_refl _) (fun _ _ => chR_mono (fun q => absurd q (n56 _))) (fun a6 p6 => (alone j hj hji a6 (.inl p6)).elim) (fun a9 p9 => (alone j hj hji a9 (.inr p9)).elim)
  rcases D2 with ⟨q1, rfl, rfl⟩ | ⟨q1, q2, rfl, rfl⟩ | ⟨q1, q3, rfl, rfl⟩ | ⟨q1, q3, rfl, rfl⟩
  · refine on_of hn6 hi (e := 0) (G := 0) ?_ (fun j hj hji => oth j hj hji _) ?_
    · rw [rwt_set hl, (cwt_words hW i).1, cwt_hold ht, e0, q1]
      show 4 + 2 * (x.d.lim - x.d.at_) + 0 + 13 + 1 + 5 * 0 + 0 ≤ 4 + 2 * (x.d.lim - x.d.at_) + 1 + 13
      omega
    · by_cases e : ldW x.st.s.W (gaA x.d.at_) = ldW x.st.s.W (gaW x.d.at_)
      · unfold glR
        rw [if_neg]
        · omega
        · rintro ⟨_, _, q, _⟩
          refine q ?_
          show ldW s'.W (gaA x.d.at_) = ldW x.st.s.W (gaW x.d.at_)
          rw [hW]; exact e
      · obtain ⟨j, hj, _, hr⟩ := some_at h d3 e
        have hji : j ≠ i := fun e => by rw [e, hp] at hr; simp [rdInR] at hr
        rw [glR_rd ⟨j, hj, by simp only; rw [svS hl, if_neg hji]; exact hr⟩]; omega
  · have g0 : glR n N ⟨onA x.st s', { x.d with second := false, busy := false, clear := false }, x.U.set i ⟨if true = false then 9 else if ({ x.d with second := false, busy := false, clear := false } : Dr).clear = true then 10 else 5, 0, b, z⟩⟩ = 0 := glR_s rfl
    have ri : rwt c n N ⟨onA x.st s', { x.d with second := false, busy := false, clear := false }, x.U.set i ⟨if true = false then 9 else if ({ x.d with second := false, busy := false, clear := false } : Dr).clear = true then 10 else 5, 0, b, z⟩⟩ i = 4 * N + 9 + 13 := by
      rw [rwt_set hl, (cwt_words hW i).1, cwt_hold ht]; rfl
    rw [q1, if_pos rfl] at e0
    unfold rF
    rw [g0]
    by_cases hra : rdAny n x
    · obtain ⟨r, hr, hrr⟩ := hra
      have hri : r ≠ i := fun e => by rw [e, hp] at hrr; simp [rdInR] at hrr
      have h5 : wr56 n ⟨onA x.st s', { x.d with second := false, busy := false, clear := false }, x.U.set i ⟨if true = false then 9 else if ({ x.d with second := false, busy := false, clear := false } : Dr).clear = true then 10 else 5, 0, b, z⟩⟩ (c.node r) := (wr56_own h y hi ht).2 ⟨rfl, .inl rfl⟩
      have hrp : (sv x.U r).a = 1 ∧ ((sv x.U r).pc = 2 ∨ (sv x.U r).pc = 10 ∨ (sv x.U r).pc = 11) := of_decide_eq_true hrr
      have hrt : (sv x.st.T r).pc = 0 := by have hk := h.k r hr; unfold linkR at hk; omega
      have two := sumN_two (f := rwt c n N x) (g := rwt c n N ⟨onA x.st s', { x.d with second := false, busy := false, clear := false }, x.U.set i ⟨if true = false then 9 else if ({ x.d with second := false, busy := false, clear := false } : Dr).clear = true then 10 else 5, 0, b, z⟩⟩) (a := 4 * N + 3) (b := 4 * N + 4) hi hr hri (by rw [ri, e0]; omega) (by
        unfold rwt
        rw [chR_yes h5, chR_no (n56 _)]
        simp only
        rw [svS hl, if_neg hri, (cwt_words hW r).1, cwt_idle hrt]
        have := nvR_pay (N := N) (d := x.d) (d' := { x.d with second := false, busy := false, clear := false }) (dd := drD x.d x.st.s.W) (dd' := drD { x.d with second := false, busy := false, clear := false } s'.W) hrp.1 hrp.2
        show nvR N 0 { x.d with second := false, busy := false, clear := false } (drD { x.d with second := false, busy := false, clear := false } s'.W) (sv x.U r) + 0 + (4 * N + 4) ≤ nvR N (4 * N + 4) x.d (drD x.d x.st.s.W) (sv x.U r) + 0
        omega) (fun j hj hji _ => by have := oth j hj hji ⟨if true = false then 9 else if ({ x.d with second := false, busy := false, clear := false } : Dr).clear = true then 10 else 5, 0, b, z⟩; omega)
      omega
    · have g1 : glR n N x = 4 * N + 4 := by
        unfold glR
        rw [if_pos ⟨⟨i, hi, by rw [hp], by rw [hp]⟩, q1, q2, hra⟩]
      have one := sumN_bump (f := rwt c n N x) (i := i) (a := 4 * N + 3) n hi
      have le := sumN_up (f := fun j => if j = i then rwt c n N x j + (4 * N + 3) else rwt c n N x j) (g := rwt c n N ⟨onA x.st s', { x.d with second := false, busy := false, clear := false }, x.U.set i ⟨if true = false then 9 else if ({ x.d with second := false, busy := false, clear := false } : Dr).clear = true then 10 else 5, 0, b, z⟩⟩) (e := 0) n (fun j hj => by
        show _ ≤ (if j = i then rwt c n N x j + (4 * N + 3) else rwt c n N x j) + 0
        by_cases e : j = i
        · rw [if_pos e, e, ri, e0]; omega
        · rw [if_neg e]; exact oth j hj e _)
      rw [one, Nat.mul_zero] at le
      rw [g1]
      omega
  · refine on_of hn6 hi (e := 0) (G := 0) ?_ (fun j hj hji => oth j hj hji _) (by rw [glR_s rfl]; omega)
    rw [rwt_set hl, (cwt_words hW i).1, cwt_hold ht, e0, q1]
    show 3 + 13 + 1 + 5 * 0 + 0 ≤ 4 + 2 * (x.d.lim - x.d.at_) + 0 + 13
    omega
  · refine on_of hn6 hi (e := 0) (G := 0) ?_ (fun j hj hji => oth j hj hji _) (by rw [glR_s rfl]; omega)
    rw [rwt_set hl, (cwt_words hW i).1, cwt_hold ht, e0, q1]
    show 4 + 2 * (x.d.lim - (x.d.at_ + 1)) + 1 + 13 + 1 + 5 * 0 + 0 ≤ 4 + 2 * (x.d.lim - x.d.at_) + 0 + 13
    omega
end
end Go.Proofs.YtmlcfmickonfbaaGreat
end
