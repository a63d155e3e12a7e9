/- Joined: Ar2, Hc1, Cn1, Shut, Cw1. -/
import Derived.Laws.Externs
import Derived.Deep.RegionHeld3
import Derived.StillTailTactics
import Derived.IntWalk
import Derived.Test.YtkdaiomjbkpedaaGreatMgCnaU1
section
/- Layer 1: what the arena's ops do. -/
namespace Go.Proofs.YtkdaiomjbkpedaaGreat
open Go.RowKit

theorem run_call_swap {P : Program} {f : FuncId} {fn : Func} (hf : P.funcs[f]? = some fn) (hname : (fn.name == "runtime.NumGoroutine") = false) (hb : fn.body.isNone = true) (hn : Extern.findNext fn = none) (k : IntKind)
    (he : Extern.find fn = some (Extern.Atomic.swapT (.int k))) {a : Addr} {x y : Int} {w : World} (hc : w.cell? a = some (.int k x)) (hz : w.frozen? a = false) :
    (callFunc f #[.pointer (some a), .int k y]).run P w = .ok (.value (.int k x)) (w.setCell a (.int k y)) := by
  rw [run_callFunc_extern hf hname hb hn he]
  change (Sem.run P (do
    let a' ← asAddr (.pointer (some a))
    let old ← Extern.Atomic.read (.int k) a'
    store a' (.int k y) .atomic
    pure old) w).andThen _ = _
  simp [Extern.Atomic.read, asAddr, hc, hz, run_store P w a (.int k y) .atomic rfl, Result.andThen]

theorem aload (w : World) (p : Addr) (x : Int) (hc : w.cell? p = some (.int .i64 x)) (hp : p.spot = none) :
    Calls Tryz.prog 83 #[.pointer (some p)] w fun e w' => e = .returned (.int .i64 x) ∧ w = w' := by
  obtain ⟨b, o, sp⟩ := p
  obtain rfl : sp = none := hp
  have hl := run_call_load (P := Tryz.prog) Tryz.func121 (by kernel_rfl) (by kernel_rfl) (by kernel_rfl) .i64 (by kernel_rfl) hc
  clear hc
  go_enter Tryz.func83, Tryz.ntmps83
  go_wp2
  go_ret
  exact ⟨rfl, rfl⟩
theorem aswap (w : World) (b o : Nat) (x y : Int) (hc : w.cell? ⟨b, o, none⟩ = some (.int .i64 x)) (hz : w.frozen? ⟨b, o, none⟩ = false) :
    Calls Tryz.prog 128 #[.pointer (some ⟨b, o, none⟩), .int .i64 y] w fun e w' => e = .returned (.int .i64 x) ∧ w' = w.setCell ⟨b, o, none⟩ (.int .i64 y) := by
  have hl := run_call_swap (P := Tryz.prog) Tryz.func151 (by kernel_rfl) (by kernel_rfl) (by kernel_rfl) .i64 (by kernel_rfl) (y := y) hc hz
  go_enter Tryz.func128, Tryz.ntmps128
  go_wp2
  go_ret
  exact ⟨rfl, rfl⟩
theorem ArIs.put {w : World} {a g : Nat} {s : Ar} (h : ArIs w a g s) {x : Int} (hx : inR s.W x = true) (v : Int) :
    ArIs (w.setCell ⟨g, x.toNat - 1, none⟩ (.int .i64 v)) a g (wrA s x v) ∧ Turns [a, g] w (w.setCell ⟨g, x.toNat - 1, none⟩ (.int .i64 v)) := by
  have h12 := inR_true.1 hx
  refine ⟨⟨?_, ?_, h.ne, ?_, h.room, h.ops⟩, (Turns.refl _ _).setCell (.inl (by simp)) _⟩
  · have := h.blk.far (p := ⟨g, x.toNat - 1, none⟩) h.ne (.int .i64 v)
    have e : arCells g (wrA s x v) = arCells g s := by unfold arCells wrA; rw [stW_len]
    rw [e]; exact this
  · have := h.wds.set_ (x.toNat - 1) (.int .i64 v)
    rw [wdL_set s (by omega)] at this
    have e : wrA s x v = { s with W := s.W.set (x.toNat - 1) v } := by unfold wrA stW; rw [if_pos hx]
    rw [e]; exact this
  · show (stW s.W x v).length ≤ _
    rw [stW_len]; exact h.le
theorem turns_ag {a g : Nat} {w w' : World} (h : Turns [a] w w') : Turns [a, g] w w' := h.mono (by simp)
def OpDone (w : World) (a g : Nat) (s' : Ar) (r : Value) (e : Ending) (w' : World) : Prop := e = .returned r ∧ ArIs w' a g s' ∧ Turns [a, g] w w'

theorem load_any {w : World} {a g : Nat} {s : Ar} (h : ArIs w a g s) (x : Int) (ho : s.ops + 1 ≤ 1000000000000) :
    Calls Tryz.prog 94 #[.pointer (some ⟨a, 0, none⟩), .int .i64 x] w (OpDone w a g (loadA s x) (.int .i64 (ldW s.W x))) := by
  have H := Lib.hid h
  cases hx : inR s.W x
  · have e : OpDone w a g (loadA s x) (.int .i64 (ldW s.W x)) (.returned (.int .i64 0)) w := ⟨by rw [ldW_out hx], by unfold loadA; rw [noteA_out s _ _ _ hx]; exact h, Turns.refl _ _⟩
    have HX := Lib.hid hx
    clear h hx
    go_enter Tryz.func94, Tryz.ntmps94
    go_wp2_with fail
    refine (word_out H.out x HX.out).mono ?_
    rintro en w1 ⟨rfl, rfl⟩
    go_wp2
    go_ret
    exact e
  · have HX := Lib.hid hx
    have HE := Lib.hid (ldW_in hx)
    have h12 := inR_true.1 hx
    have hil : x.toNat - 1 < s.W.length := by omega
    clear h hx
    go_enter Tryz.func94, Tryz.ntmps94
    go_wp2_with fail
    refine (word_in H.out x HX.out).mono ?_
    rintro en w1 ⟨rfl, rfl⟩
    go_wp2_with fail
    refine (note_any H.out 1 x false HX.out ho).mono ?_
    rintro en w1 ⟨rfl, h1, t1⟩
    have hc := (h1.word (i := x.toNat - 1) (by rw [noteA_W]; exact hil)).1
    rw [noteA_W] at hc
    have H1 := Lib.hid (And.intro h1 t1)
    clear h1 t1
    go_wp2_with fail
    refine (aload _ _ _ hc rfl).mono ?_
    rintro en w2 ⟨rfl, rfl⟩
    clear hc
    rw [← HE.out]
    obtain ⟨r, hr⟩ : ∃ r, r = ldW s.W x := ⟨_, rfl⟩
    rw [← hr]
    have HR := Lib.hid hr
    clear hr
    go_wp2
    go_ret
    exact ⟨by rw [HR.out]; rfl, H1.out.1, turns_ag H1.out.2⟩
theorem swap_any {w : World} {a g : Nat} {s : Ar} (h : ArIs w a g s) (x v : Int) (ho : s.ops + 1 ≤ 1000000000000) :
    Calls Tryz.prog 92 #[.pointer (some ⟨a, 0, none⟩), .int .i64 x, .int .i64 v] w (OpDone w a g (swapA s x v) (.int .i64 (ldW s.W x))) := by
  have H := Lib.hid h
  cases hx : inR s.W x
  · have e : OpDone w a g (swapA s x v) (.int .i64 (ldW s.W x)) (.returned (.int .i64 0)) w := ⟨by rw [ldW_out hx], by unfold swapA; rw [noteA_out s _ _ _ hx, wrA_out s _ _ hx]; exact h, Turns.refl _ _⟩
    have HX := Lib.hid hx
    clear h hx
    go_enter Tryz.func92, Tryz.ntmps92
    go_wp2_with fail
    refine (word_out H.out x HX.out).mono ?_
    rintro en w1 ⟨rfl, rfl⟩
    go_wp2
    go_ret
    exact e
  · have HX := Lib.hid hx
    have HE := Lib.hid (ldW_in hx)
    have h12 := inR_true.1 hx
    have hil : x.toNat - 1 < s.W.length := by omega
    clear h hx
    go_enter Tryz.func92, Tryz.ntmps92
    go_wp2_with fail
    refine (word_in H.out x HX.out).mono ?_
    rintro en w1 ⟨rfl, rfl⟩
    go_wp2_with fail
    refine (note_any H.out 3 x true HX.out ho).mono ?_
    rintro en w1 ⟨rfl, h1, t1⟩
    have hc := h1.word (i := x.toNat - 1) (by rw [noteA_W]; exact hil)
    rw [noteA_W] at hc
    have hp := h1.put (x := x) (by rw [noteA_W]; exact HX.out) v
    have H1 := Lib.hid (And.intro hp t1)
    have HC := Lib.hid hc
    clear h1 t1 hp hc
    go_wp2_with fail
    refine (aswap _ _ _ _ _ HC.out.1 HC.out.2).mono ?_
    rintro en w2 ⟨rfl, rfl⟩
    rw [← HE.out]
    obtain ⟨r, hr⟩ : ∃ r, r = ldW s.W x := ⟨_, rfl⟩
    rw [← hr]
    have HR := Lib.hid hr
    clear hr
    go_wp2
    go_ret
    exact ⟨by rw [HR.out]; rfl, H1.out.1.1, (turns_ag H1.out.2).trans H1.out.1.2⟩
end Go.Proofs.YtkdaiomjbkpedaaGreat
end
section
/- Layer 29 (hclh): the machine as plain data, and what always holds of it. No program in sight. -/
namespace Go.Proofs.YtkdaiomjbkpedaaGreat
open Go

def dv (D : List Int) (t : Nat) : Int := D.getD t 0
def tokH (t : Nat) (d : Int) : Int := d * 65536 + ((t : Int) + 1)
structure Hc where
  ar : Ar
  D : List Int
  S : List Sp
def isOk (n : Nat) (w : Int) : Bool := decide (0 ≤ w ∧ 1 ≤ w % 65536 ∧ w % 65536 ≤ n)
def isB (W : List Int) (f : Int) (n : Nat) (w : Int) : Bool := isOk n w && decide (w / 65536 ≤ ldW W (f + (w % 65536 - 1)))
def isA (s : Ar) (f : Int) (n : Nat) (w : Int) : Ar := if isOk n w then loadA s (f + (w % 65536 - 1)) else s
/-- a step of thread i, whose node is nu; nd nodes, n threads, a delay -/
def stepHp (nd n : Nat) (dl : Int) (h : Hc) (nu i : Nat) (p : Sp) : Ar × List Int × Sp :=
  if p.pc = 1 then (swapA h.ar (2 + (nu : Int)) (tokH i (dv h.D i + 1)), h.D,
    if ldW h.ar.W (2 + (nu : Int)) ≠ 0 then { p with a := ldW h.ar.W (2 + (nu : Int)), pc := 5 } else if 0 < dl then { p with a := ldW h.ar.W (2 + (nu : Int)), b := dl, pc := 2 } else { p with a := ldW h.ar.W (2 + (nu : Int)), b := 0, pc := 3 })
  else if p.pc = 2 then (h.ar, h.D, { p with b := p.b - 1, pc := if 0 < p.b - 1 then 2 else 3 })
  else if p.pc = 3 then (swapA h.ar (2 + (nu : Int)) 0, h.D, { p with c := ldW h.ar.W (2 + (nu : Int)), pc := 4 })
  else if p.pc = 4 then (swapA h.ar 1 p.c, h.D, { p with a := ldW h.ar.W 1, pc := if ldW h.ar.W 1 = 0 then 10 else 5 })
  else if p.pc = 5 then (isA h.ar (2 + (nd : Int)) n p.a, h.D, { p with pc := if isB h.ar.W (2 + (nd : Int)) n p.a then 10 else 5 })
  else (addA h.ar (2 + (nd : Int) + i) 1, h.D.set i (dv h.D i + 1), { p with pc := 0 })
def goesH (p : Sp) : Bool := p.pc == 1 || p.pc == 2 || p.pc == 3 || p.pc == 4 || p.pc == 5 || p.pc == 11
def stepH (nd n : Nat) (dl : Int) (node : Nat → Nat) (h : Hc) (i : Int) : Hc × Bool :=
  if okI h.S i ∧ goesH (getS h.S i) = true then
    (⟨(stepHp nd n dl h (node i.toNat) i.toNat (getS h.S i)).1, (stepHp nd n dl h (node i.toNat) i.toNat (getS h.S i)).2.1, h.S.set i.toNat (stepHp nd n dl h (node i.toNat) i.toNat (getS h.S i)).2.2⟩,
      decide ((stepHp nd n dl h (node i.toNat) i.toNat (getS h.S i)).2.2.pc = 10 ∨ (stepHp nd n dl h (node i.toNat) i.toNat (getS h.S i)).2.2.pc = 0))
  else (h, false)
def beginH (h : Hc) (i from_ to_ : Int) : Hc × Bool :=
  if okI h.S i ∧ (getS h.S i).pc = from_ then (⟨h.ar, h.D, h.S.set i.toNat { getS h.S i with pc := to_ }⟩, true) else (h, false)

/- the words -/
def tl (W : List Int) : Int := W.getD 0 0
def lc (W : List Int) (v : Nat) : Int := W.getD (1 + v) 0
def tnw (nd : Nat) (W : List Int) (i : Nat) : Int := W.getD (1 + nd + i) 0
section
variable {W : List Int} {nd n i v : Nat}
theorem getD_set_ne {α : Type} (l : List α) {i j : Nat} (a d : α) (h : i ≠ j) : (l.set i a).getD j d = l.getD j d := by rw [getD_set, if_neg (fun e => h e.1)]
theorem getD_set_eq {α : Type} (l : List α) {i : Nat} (a d : α) (h : i < l.length) : (l.set i a).getD i d = a := by rw [getD_set, if_pos ⟨rfl, h⟩]
theorem ld_at {k : Nat} (h : k < W.length) : ldW W ((k : Int) + 1) = W.getD k 0 := by
  unfold ldW inR
  rw [if_pos (decide_eq_true (by omega)), show ((k : Int) + 1).toNat - 1 = k by omega]
theorem st_at {k : Nat} (h : k < W.length) (x : Int) : stW W ((k : Int) + 1) x = W.set k x := by
  unfold stW inR
  rw [if_pos (decide_eq_true (by omega)), show ((k : Int) + 1).toNat - 1 = k by omega]
theorem ld_tl1 (hw : W.length = 1 + nd + n) : ldW W 1 = tl W := ld_at (k := 0) (by omega)
theorem ld_lc (hw : W.length = 1 + nd + n) (h : v < nd) : ldW W (2 + (v : Int)) = lc W v := by rw [show (2 + (v : Int)) = ((1 + v : Nat) : Int) + 1 by omega]; exact ld_at (by omega)
theorem ld_tw (hw : W.length = 1 + nd + n) (h : i < n) : ldW W (2 + (nd : Int) + i) = tnw nd W i := by rw [show (2 + (nd : Int) + i) = ((1 + nd + i : Nat) : Int) + 1 by omega]; exact ld_at (by omega)
theorem st_tl1 (hw : W.length = 1 + nd + n) (x : Int) : stW W 1 x = W.set 0 x := st_at (k := 0) (by omega) x
theorem st_lc (hw : W.length = 1 + nd + n) (h : v < nd) (x : Int) : stW W (2 + (v : Int)) x = W.set (1 + v) x := by rw [show (2 + (v : Int)) = ((1 + v : Nat) : Int) + 1 by omega]; exact st_at (by omega) x
theorem st_tw (hw : W.length = 1 + nd + n) (h : i < n) (x : Int) : stW W (2 + (nd : Int) + i) x = W.set (1 + nd + i) x := by rw [show (2 + (nd : Int) + i) = ((1 + nd + i : Nat) : Int) + 1 by omega]; exact st_at (by omega) x
end

/- chains -/
def Lks (P : Nat → Nat → Prop) : List Nat → Prop
  | [] => True
  | a :: l => (∀ b, l.head? = some b → P a b) ∧ Lks P l
section
variable {P P' : Nat → Nat → Prop} {l m : List Nat}
theorem Lks.append (h : Lks P l) (k : Lks P m) (hj : ∀ a b, l.getLast? = some a → m.head? = some b → P a b) : Lks P (l ++ m) := by
  induction l with
  | nil => exact k
  | cons a l ih =>
    refine ⟨fun b hb => ?_, ih h.2 fun x y hx hy => hj x y ?_ hy⟩
    · cases l with
      | nil => exact hj a b rfl (by simpa using hb)
      | cons c l => exact h.1 b (by simpa using hb)
    · cases l with
      | nil => simp at hx
      | cons c l => rw [List.getLast?_cons_cons]; exact hx
theorem Lks.mono (h : Lks P l) (hm : ∀ a b, a ∈ l → b ∈ l.tail → P a b → P' a b) : Lks P' l := by
  induction l with
  | nil => trivial
  | cons a l ih =>
    refine ⟨fun b hb => hm a b (by simp) (List.mem_of_mem_head? hb) (h.1 b hb), ih h.2 fun x y hx hy => hm x y (List.mem_cons_of_mem _ hx) (List.mem_of_mem_tail hy)⟩
theorem Lks.mem {b : Nat} (h : Lks P l) (hb : b ∈ l.tail) : ∃ a, a ∈ l ∧ P a b := by
  induction l with
  | nil => simp at hb
  | cons a l ih =>
    cases l with
    | nil => simp at hb
    | cons c l =>
      rcases List.mem_cons.1 (show b ∈ c :: l from hb) with rfl | hb'
      · exact ⟨a, by simp, h.1 b rfl⟩
      · obtain ⟨x, hx, hp⟩ := ih h.2 hb'
        exact ⟨x, List.mem_cons_of_mem _ hx, hp⟩
theorem Lks.tail (h : Lks P l) : Lks P l.tail := by
  cases l with
  | nil => exact h
  | cons a l => exact h.2
theorem mem_ht {t : Nat} (h : t ∈ l) : l.head? = some t ∨ t ∈ l.tail := by
  cases l with
  | nil => simp at h
  | cons a l =>
    rcases List.mem_cons.1 h with rfl | h
    · exact .inl rfl
    · exact .inr h
theorem head_not_tail {t : Nat} (hn : l.Nodup) (h : l.head? = some t) : t ∉ l.tail := by
  cases l with
  | nil => simp at h
  | cons a l =>
    simp at h
    subst h
    exact (List.nodup_cons.1 hn).1
theorem ne_of_head {t : Nat} (h : l.head? = some t) : l ≠ [] := by rintro rfl; simp at h
theorem mem_of_head {t : Nat} (h : l.head? = some t) : t ∈ l := List.mem_of_mem_head? h
end
def lastT (D : List Int) (l : List Nat) : Int := match l.getLast? with | some t => tokH t (dv D t + 1) | none => 0
theorem lastT_some {D : List Int} {l : List Nat} {t : Nat} (h : l.getLast? = some t) : lastT D l = tokH t (dv D t + 1) := by unfold lastT; rw [h]
theorem last_some {l : List Nat} (h : l ≠ []) : ∃ t, l.getLast? = some t ∧ t ∈ l := ⟨l.getLast h, List.getLast?_eq_some_getLast h, List.getLast_mem h⟩
theorem lastT_append {D : List Int} (l : List Nat) {m : List Nat} (h : m ≠ []) : lastT D (l ++ m) = lastT D m := by
  obtain ⟨t, ht, _⟩ := last_some h
  rw [lastT_some ht, lastT_some (t := t)]
  rw [List.getLast?_append, ht]; rfl
def Dn (n : Nat) (D : List Int) (w : Int) : Prop := ∃ (t : Nat) (d : Int), t < n ∧ 1 ≤ d ∧ d ≤ dv D t ∧ w = tokH t d
def HLk (D : List Int) (S : List Sp) (p s : Nat) : Prop := (sv S s).pc = 5 ∧ (sv S s).a = tokH p (dv D p + 1)
/-- G 0: the global row of those who were spliced; G (m + 1): the row of the master m that was not yet -/
structure HIv (nd n : Nat) (node : Nat → Nat) (W D : List Int) (S : List Sp) (G : Nat → List Nat) : Prop where
  wl : W.length = 1 + nd + n
  sl : S.length = n
  dl : n ≤ D.length
  n32 : n ≤ 32
  nn : ∀ t, t < n → node t < nd
  tw : ∀ t, t < n → tnw nd W t = dv D t
  d0 : ∀ t, 0 ≤ dv D t
  nod : ∀ k, (G k).Nodup
  dj : ∀ k k' t, t ∈ G k → t ∈ G k' → k = k'
  lt : ∀ k t, t ∈ G k → t < n
  lk : ∀ k, Lks (HLk D S) (G k)
  free : ∀ t, t < n → (∀ k, t ∉ G k) → (sv S t).pc = 0 ∨ (sv S t).pc = 1
  first : ∀ m, G (m + 1) ≠ [] → (G (m + 1)).head? = some m
  same : ∀ m t, t ∈ G (m + 1) → node t = node m
  mast : ∀ m, G (m + 1) ≠ [] → ((((sv S m).pc = 2 ∧ 0 < (sv S m).b) ∨ (sv S m).pc = 3) ∧ lc W (node m) = lastT D (G (m + 1))) ∨ ((sv S m).pc = 4 ∧ (sv S m).c = lastT D (G (m + 1)))
  one : ∀ m m', G (m + 1) ≠ [] → G (m' + 1) ≠ [] → node m = node m' → (sv S m).pc < 4 → (sv S m').pc < 4 → m = m'
  loc : ∀ v, v < nd → lc W v = 0 ∨ ∃ m, G (m + 1) ≠ [] ∧ (sv S m).pc < 4 ∧ node m = v
  front : ∀ t, (G 0).head? = some t → ((sv S t).pc = 5 ∧ Dn n D (sv S t).a) ∨ (sv S t).pc = 10 ∨ (sv S t).pc = 11
  tail : (tl W = lastT D (G 0) ∧ G 0 ≠ []) ∨ (G 0 = [] ∧ (tl W = 0 ∨ Dn n D (tl W)))
section
variable {nd n : Nat} {node : Nat → Nat} {W W' D D' : List Int} {S : List Sp} {G : Nat → List Nat} {i : Nat} {p' : Sp}
theorem tok_ne {t : Nat} {d : Int} (h : 0 ≤ d) : tokH t d ≠ 0 := by unfold tokH; omega
theorem tok_inj {t t' : Nat} {d d' : Int} (h : t < 32) (h' : t' < 32) (e : tokH t d = tokH t' d') : t = t' ∧ d = d' := by unfold tokH at e; omega
theorem Dn.ne {w : Int} (h : Dn n D w) : w ≠ 0 := by obtain ⟨t, d, _, h1, _, rfl⟩ := h; exact tok_ne (by omega)
theorem HIv.notail (h : HIv nd n node W D S G) {k t : Nat} (ht : t ∈ (G k).tail) : (sv S t).pc = 5 ∧ ∃ p, p ∈ G k ∧ (sv S t).a = tokH p (dv D p + 1) := by
  obtain ⟨p, hp, h5, ha⟩ := (h.lk k).mem ht
  exact ⟨h5, p, hp, ha⟩
theorem HIv.inG (h : HIv nd n node W D S G) {k t : Nat} (ht : t ∈ G k) : (t ∈ (G k).tail ∧ (sv S t).pc = 5) ∨ ((G k).head? = some t ∧ ((k = 0 ∧ (((sv S t).pc = 5 ∧ Dn n D (sv S t).a) ∨ (sv S t).pc = 10 ∨ (sv S t).pc = 11)) ∨ (k = t + 1 ∧ ((sv S t).pc = 2 ∨ (sv S t).pc = 3 ∨ (sv S t).pc = 4)))) := by
  rcases mem_ht ht with hh | hh
  · refine .inr ⟨hh, ?_⟩
    cases k with
    | zero => exact .inl ⟨rfl, h.front t hh⟩
    | succ m =>
      have e := h.first m (ne_of_head hh)
      rw [hh] at e
      injection e with e
      subst e
      refine .inr ⟨rfl, ?_⟩
      rcases h.mast t (ne_of_head hh) with ⟨h1 | h1, _⟩ | ⟨h1, _⟩
      · exact .inl h1.1
      · exact .inr (.inl h1)
      · exact .inr (.inr h1)
  · exact .inl ⟨hh, (h.notail hh).1⟩
theorem HIv.at01 (h : HIv nd n node W D S G) (hp : (sv S i).pc = 0 ∨ (sv S i).pc = 1) : ∀ k, i ∉ G k := fun k hk => by
  rcases h.inG hk with h1 | ⟨_, ⟨_, h1⟩ | ⟨_, h1⟩⟩ <;> omega
theorem HIv.at234 (h : HIv nd n node W D S G) (hi : i < n) (hp : (sv S i).pc = 2 ∨ (sv S i).pc = 3 ∨ (sv S i).pc = 4) : (G (i + 1)).head? = some i := by
  rcases Classical.em (∀ k, i ∉ G k) with hk | hk
  · have := h.free i hi hk; omega
  · obtain ⟨k, hk⟩ := Classical.not_forall.1 hk
    rcases h.inG (Classical.not_not.1 hk) with h1 | ⟨h0, ⟨_, h1⟩ | ⟨rfl, h1⟩⟩
    · omega
    · omega
    · exact h0
theorem HIv.atFront (h : HIv nd n node W D S G) (hi : i < n) (hp : (sv S i).pc = 10 ∨ (sv S i).pc = 11) : (G 0).head? = some i := by
  rcases Classical.em (∀ k, i ∉ G k) with hk | hk
  · have := h.free i hi hk; omega
  · obtain ⟨k, hk⟩ := Classical.not_forall.1 hk
    rcases h.inG (Classical.not_not.1 hk) with h1 | ⟨h0, ⟨rfl, h1⟩ | ⟨rfl, h1⟩⟩
    · omega
    · exact h0
    · omega
theorem HIv.at5 (h : HIv nd n node W D S G) (hi : i < n) (hp : (sv S i).pc = 5) : (∃ k p, i ∈ (G k).tail ∧ p ∈ G k ∧ (sv S i).a = tokH p (dv D p + 1)) ∨ ((G 0).head? = some i ∧ Dn n D (sv S i).a) := by
  rcases Classical.em (∀ k, i ∉ G k) with hk | hk
  · have := h.free i hi hk; omega
  · obtain ⟨k, hk⟩ := Classical.not_forall.1 hk
    rcases h.inG (Classical.not_not.1 hk) with h1 | ⟨h0, ⟨rfl, h1⟩ | ⟨rfl, h1⟩⟩
    · obtain ⟨_, p, h2, h3⟩ := h.notail h1.1
      exact .inl ⟨k, p, h1.1, h2, h3⟩
    · refine .inr ⟨h0, ?_⟩
      rcases h1 with h1 | h1 | h1
      · exact h1.2
      · omega
      · omega
    · omega
theorem sv_ne {j : Nat} (h : j ≠ i) : sv (S.set i p') j = sv S j := by rw [sv_set, if_neg (fun e => h e.1.symm)]
theorem sv_eq (h : i < S.length) : sv (S.set i p') i = p' := by rw [sv_set, if_pos ⟨rfl, h⟩]
theorem isB_tok (hw : W.length = 1 + nd + n) (hn : n ≤ 32) {t : Nat} (ht : t < n) {d : Int} (h0 : 0 ≤ d) : isB W (2 + (nd : Int)) n (tokH t d) = decide (d ≤ tnw nd W t) := by
  have e1 : tokH t d % 65536 = t + 1 := by unfold tokH; omega
  have e2 : tokH t d / 65536 = d := by unfold tokH; omega
  unfold isB isOk
  rw [e1, e2, show (2 + (nd : Int) + ((t : Int) + 1 - 1)) = 2 + (nd : Int) + t by omega, ld_tw hw ht, decide_eq_true (show 0 ≤ tokH t d ∧ 1 ≤ (t : Int) + 1 ∧ (t : Int) + 1 ≤ n by refine ⟨by unfold tokH; omega, by omega, by omega⟩)]
  rfl
/-- a step of one who is no follower; no row turns -/
theorem HIv.keep (h : HIv nd n node W D S G) (hi : i < n) (hw : W'.length = W.length) (htw : ∀ t, t < n → tnw nd W' t = tnw nd W t) (htl : tl W' = tl W) (hnt : ∀ k, i ∉ (G k).tail)
    (hfree : (∀ k, i ∉ G k) → p'.pc = 0 ∨ p'.pc = 1)
    (hmast : G (i + 1) ≠ [] → (((p'.pc = 2 ∧ 0 < p'.b) ∨ p'.pc = 3) ∧ lc W' (node i) = lastT D (G (i + 1))) ∨ (p'.pc = 4 ∧ p'.c = lastT D (G (i + 1))))
    (hmo : ∀ m, m ≠ i → G (m + 1) ≠ [] → (sv S m).pc < 4 → lc W' (node m) = lc W (node m))
    (hone : G (i + 1) ≠ [] → p'.pc < 4 → (sv S i).pc < 4)
    (hloc : ∀ v, v < nd → lc W' v = 0 ∨ (lc W' v = lc W v ∧ (v = node i → G (i + 1) ≠ [] → (sv S i).pc < 4 → p'.pc < 4)))
    (hfront : (G 0).head? = some i → (p'.pc = 5 ∧ Dn n D p'.a) ∨ p'.pc = 10 ∨ p'.pc = 11) : HIv nd n node W' D (S.set i p') G := by
  have hii := sv_eq (S := S) (i := i) (p' := p') (by rw [h.sl]; exact hi)
  refine ⟨hw.trans h.wl, by simp [h.sl], h.dl, h.n32, h.nn, fun t ht => (htw t ht).trans (h.tw t ht), h.d0, h.nod, h.dj, h.lt, fun k => ?_, fun t ht hk => ?_, h.first, h.same, fun m hm => ?_, fun m m' hm hm' he h1 h2 => ?_, fun v hv => ?_, fun t ht => ?_, by rw [htl]; exact h.tail⟩
  · refine (h.lk k).mono fun a b _ hb hab => ?_
    have : b ≠ i := fun e => hnt k (e ▸ hb)
    unfold HLk
    rw [sv_ne this]; exact hab
  · by_cases e : t = i
    · subst e; rw [hii]; exact hfree hk
    · rw [sv_ne e]; exact h.free t ht hk
  · by_cases e : m = i
    · subst e; rw [hii]; exact hmast hm
    · rw [sv_ne e]
      rcases h.mast m hm with ⟨h1, h2⟩ | h1
      · exact .inl ⟨h1, by rw [hmo m e hm (by omega)]; exact h2⟩
      · exact .inr h1
  · refine h.one m m' hm hm' he ?_ ?_
    · by_cases e : m = i
      · subst e; rw [hii] at h1; exact hone hm h1
      · rw [sv_ne e] at h1; exact h1
    · by_cases e : m' = i
      · subst e; rw [hii] at h2; exact hone hm' h2
      · rw [sv_ne e] at h2; exact h2
  · rcases hloc v hv with h1 | ⟨h1, h2⟩
    · exact .inl h1
    · rw [h1]
      rcases h.loc v hv with h3 | ⟨m, h3, h4, h5⟩
      · exact .inl h3
      · refine .inr ⟨m, h3, ?_, h5⟩
        by_cases e : m = i
        · subst e; rw [hii]; exact h2 h5.symm h3 h4
        · rw [sv_ne e]; exact h4
  · by_cases e : t = i
    · subst e; rw [hii]; exact hfront ht
    · rw [sv_ne e]; exact h.front t ht
end
end Go.Proofs.YtkdaiomjbkpedaaGreat
end
section
/- Layer 31 (cna): the machine as plain data, and what always holds of it. No program in sight. -/
namespace Go.Proofs.YtkdaiomjbkpedaaGreat
open Go

/-- a walk: its node, whether it is under way, how many it passed, the last one, the one found -/
structure Wk where
  node : Int
  way : Bool
  passed : Int
  last : Int
  found : Int
structure Cn where
  ar : Ar
  wk : Wk
  S : List Sp
def takeW (n : Nat) (node : Nat → Int) (w : Wk) (x : Int) : Wk :=
  if ¬ (1 ≤ x ∧ x ≤ n) ∨ w.passed = n then { w with way := false }
  else if node (x - 1).toNat = w.node then { w with way := false, found := x }
  else { w with way := true, last := x, passed := w.passed + 1 }
def beginW (n : Nat) (node : Nat → Int) (w : Wk) (x v : Int) : Wk := takeW n node { w with node := v, passed := 0, last := 0, found := 0 } x
def cN (x : Int) : Int := 3 * x
def cS (x : Int) : Int := 3 * x + 1
def cL (x : Int) : Int := 3 * x + 2
def inC (s : Ar) (x : Int) (p : Sp) : Ar × Sp :=
  if p.pc = 1 then (storeA s (cN x) 0, { p with pc := 2 })
  else if p.pc = 2 then (storeA s (cS x) 0, { p with pc := 3 })
  else if p.pc = 3 then (swapA s 1 x, { p with a := ldW s.W 1, pc := if ldW s.W 1 = 0 then 6 else 4 })
  else if p.pc = 4 then (storeA s (cN p.a) x, { p with pc := 5 })
  else if p.pc = 5 then (loadA s (cS x), { p with a := ldW s.W (cS x), pc := if ldW s.W (cS x) ≠ 0 then 10 else 5 })
  else (storeA s (cS x) (-1), { p with pc := 10 })
def endsC (s : Ar) (x : Int) (p : Sp) : Ar × Sp :=
  if p.pc = 11 then (loadA s (cS x), { p with b := ldW s.W (cS x), pc := 12 })
  else if p.pc = 12 then (loadA s (cN x), { p with a := ldW s.W (cN x), pc := if ldW s.W (cN x) ≠ 0 then 17 else if 0 < p.b then 14 else 13 })
  else if p.pc = 13 then (casA s 1 x 0, { p with pc := if casB s 1 x then 0 else 16 })
  else if p.pc = 14 then (loadA s (cL p.b), { p with c := ldW s.W (cL p.b), pc := 15 })
  else if p.pc = 15 then (casA s 1 x p.c, { p with pc := if casB s 1 x then 28 else 16 })
  else (loadA s (cN x), { p with a := ldW s.W (cN x), pc := if ldW s.W (cN x) ≠ 0 then 17 else 16 })
def frontC (p : Sp) : Sp := { p with pc := if 0 < p.b then 25 else 29 }
def looksC (n : Nat) (node : Nat → Int) (bud : Int) (s : Ar) (w : Wk) (i : Nat) (p : Sp) : Ar × Wk × Sp :=
  if p.pc = 18 then
    if w.way then
      (loadA s (cN w.last), takeW n node w (ldW s.W (cN w.last)),
        if (takeW n node w (ldW s.W (cN w.last))).way then { p with pc := 18 } else if (takeW n node w (ldW s.W (cN w.last))).found ≠ 0 then { p with pc := 19 } else frontC p)
    else (s, w, { p with pc := 18 })
  else if bud ≤ ldW s.W 2 then (loadA s 2, w, frontC { p with c := ldW s.W 2 })
  else (loadA s 2, beginW n node w p.a (node i), { p with c := ldW s.W 2, pc := if (beginW n node w p.a (node i)).way then 18 else 23 })
def asideC (s : Ar) (w : Wk) (p : Sp) : Ar × Sp :=
  if p.pc = 19 then (storeA s (cN w.last) 0, if 0 < p.b then { p with pc := 20 } else { p with b := p.a, pc := 22 })
  else if p.pc = 20 then (loadA s (cL p.b), { p with c := ldW s.W (cL p.b), pc := 21 })
  else if p.pc = 25 then (loadA s (cL p.b), { p with c := ldW s.W (cL p.b), pc := 26 })
  else if p.pc = 21 then (storeA s (cN p.c) p.a, { p with pc := 22 })
  else if p.pc = 26 then (storeA s (cN p.c) p.a, { p with pc := 27 })
  else if p.pc = 22 then (storeA s (cL p.b) w.last, { p with a := w.found, pc := 23 })
  else if p.pc = 23 then (addA s 2 1, { p with pc := 24 })
  else if p.pc = 24 then (storeA s (cS p.a) p.b, { p with pc := 0 })
  else if p.pc = 27 then (storeA s 2 0, { p with pc := 28 })
  else if p.pc = 29 then (storeA s 2 0, { p with pc := 30 })
  else if p.pc = 28 then (storeA s (cS p.b) (-1), { p with pc := 0 })
  else (storeA s (cS p.a) (-1), { p with pc := 0 })
def stepCp (n : Nat) (node : Nat → Int) (bud : Int) (h : Cn) (i : Nat) (p : Sp) : Ar × Wk × Sp :=
  if p.pc < 10 then ((inC h.ar (i + 1) p).1, h.wk, (inC h.ar (i + 1) p).2)
  else if p.pc ≤ 16 then ((endsC h.ar (i + 1) p).1, h.wk, (endsC h.ar (i + 1) p).2)
  else if p.pc ≤ 18 then looksC n node bud h.ar h.wk i p
  else ((asideC h.ar h.wk p).1, h.wk, (asideC h.ar h.wk p).2)
def stepC (n : Nat) (node : Nat → Int) (bud : Int) (h : Cn) (i : Int) : Cn × Bool :=
  if okI h.S i ∧ (getS h.S i).pc ≠ 0 ∧ (getS h.S i).pc ≠ 10 then
    (⟨(stepCp n node bud h i.toNat (getS h.S i)).1, (stepCp n node bud h i.toNat (getS h.S i)).2.1, h.S.set i.toNat (stepCp n node bud h i.toNat (getS h.S i)).2.2⟩,
      decide ((stepCp n node bud h i.toNat (getS h.S i)).2.2.pc = 0 ∨ (stepCp n node bud h i.toNat (getS h.S i)).2.2.pc = 10))
  else (h, false)
def beginC (h : Cn) (i from_ to_ : Int) : Cn × Bool :=
  if okI h.S i ∧ (getS h.S i).pc = from_ then (⟨h.ar, h.wk, h.S.set i.toNat { getS h.S i with pc := to_ }⟩, true) else (h, false)

/- the words -/
def ctl (W : List Int) : Int := W.getD 0 0
def cct (W : List Int) : Int := W.getD 1 0
def cnx (W : List Int) (t : Nat) : Int := W.getD (3 * t + 2) 0
def csp (W : List Int) (t : Nat) : Int := W.getD (3 * t + 3) 0
def cla (W : List Int) (t : Nat) : Int := W.getD (3 * t + 4) 0
def num (t : Nat) : Int := (t : Int) + 1
section
variable {W : List Int} {n t : Nat}
theorem ldc_tl (hw : W.length = 2 + 3 * n) : ldW W 1 = ctl W := ld_at (k := 0) (by omega)
theorem ldc_ct (hw : W.length = 2 + 3 * n) : ldW W 2 = cct W := ld_at (k := 1) (by omega)
theorem ldc_nx (hw : W.length = 2 + 3 * n) (h : t < n) : ldW W (cN (num t)) = cnx W t := by rw [show cN (num t) = ((3 * t + 2 : Nat) : Int) + 1 by unfold cN num; omega]; exact ld_at (by omega)
theorem ldc_sp (hw : W.length = 2 + 3 * n) (h : t < n) : ldW W (cS (num t)) = csp W t := by rw [show cS (num t) = ((3 * t + 3 : Nat) : Int) + 1 by unfold cS num; omega]; exact ld_at (by omega)
theorem ldc_la (hw : W.length = 2 + 3 * n) (h : t < n) : ldW W (cL (num t)) = cla W t := by rw [show cL (num t) = ((3 * t + 4 : Nat) : Int) + 1 by unfold cL num; omega]; exact ld_at (by omega)
theorem stc_tl (hw : W.length = 2 + 3 * n) (x : Int) : stW W 1 x = W.set 0 x := st_at (k := 0) (by omega) x
theorem stc_ct (hw : W.length = 2 + 3 * n) (x : Int) : stW W 2 x = W.set 1 x := st_at (k := 1) (by omega) x
theorem stc_nx (hw : W.length = 2 + 3 * n) (h : t < n) (x : Int) : stW W (cN (num t)) x = W.set (3 * t + 2) x := by rw [show cN (num t) = ((3 * t + 2 : Nat) : Int) + 1 by unfold cN num; omega]; exact st_at (by omega) x
theorem stc_sp (hw : W.length = 2 + 3 * n) (h : t < n) (x : Int) : stW W (cS (num t)) x = W.set (3 * t + 3) x := by rw [show cS (num t) = ((3 * t + 3 : Nat) : Int) + 1 by unfold cS num; omega]; exact st_at (by omega) x
theorem stc_la (hw : W.length = 2 + 3 * n) (h : t < n) (x : Int) : stW W (cL (num t)) x = W.set (3 * t + 4) x := by rw [show cL (num t) = ((3 * t + 4 : Nat) : Int) + 1 by unfold cL num; omega]; exact st_at (by omega) x
end
theorem num_inj {a b : Nat} (h : num a = num b) : a = b := by unfold num at h; omega
theorem num_ne (a : Nat) : num a ≠ 0 := by unfold num; omega
/- chains, again -/
section
variable {P : Nat → Nat → Prop} {l m : List Nat}
theorem Lks.left (h : Lks P (l ++ m)) : Lks P l := by
  induction l with
  | nil => trivial
  | cons a l ih =>
    refine ⟨fun b hb => h.1 b ?_, ih h.2⟩
    cases l with
    | nil => simp at hb
    | cons c l => simpa using hb
theorem Lks.right (h : Lks P (l ++ m)) : Lks P m := by
  induction l with
  | nil => exact h
  | cons a l ih => exact ih h.2
theorem Lks.joint (h : Lks P (l ++ m)) {a b : Nat} (ha : l.getLast? = some a) (hb : m.head? = some b) : P a b := by
  induction l with
  | nil => simp at ha
  | cons c l ih =>
    cases l with
    | nil => simp at ha; subst ha; exact h.1 b (by simpa using hb)
    | cons d l => exact ih h.2 (by rw [List.getLast?_cons_cons] at ha; exact ha)
end
/-- the last one of a row -/
def lastD (h : Nat) (R : List Nat) : Nat := R.getLast?.getD h
theorem lastD_nil (h : Nat) : lastD h [] = h := rfl
theorem lastD_some {h a : Nat} {R : List Nat} (e : R.getLast? = some a) : lastD h R = a := by unfold lastD; rw [e]; rfl
theorem lastD_mem (h : Nat) (R : List Nat) : lastD h R = h ∨ lastD h R ∈ R := by
  by_cases e : R = []
  · subst e; exact .inl rfl
  · obtain ⟨t, ht, hm⟩ := last_some e
    rw [lastD_some ht]; exact .inr hm
theorem lastD_append (h : Nat) (R : List Nat) (t : Nat) : lastD h (R ++ [t]) = t := lastD_some (by simp)
/-- s stands behind p: it has told it, or is just about to -/
def CLk (W : List Int) (S : List Sp) (p s : Nat) : Prop := ((sv S s).pc = 4 ∧ (sv S s).a = num p ∧ cnx W p = 0) ∨ ((sv S s).pc = 5 ∧ cnx W p = num s)
/-- the line: its first one h, those put aside, the others behind h -/
structure CBs (n : Nat) (W : List Int) (S : List Sp) (h : Nat) (A R : List Nat) : Prop where
  wl : W.length = 2 + 3 * n
  sl : S.length = n
  nh : h ∉ A ++ R
  nd : (A ++ R).Nodup
  hn : h < n
  lt : ∀ t, t ∈ A ++ R → t < n
  out : ∀ t, t < n → t ≠ h → t ∉ A ++ R → (0 ≤ (sv S t).pc ∧ (sv S t).pc ≤ 3) ∧ (2 ≤ (sv S t).pc → cnx W t = 0) ∧ ((sv S t).pc = 3 → csp W t = 0)
  wait : ∀ t, t ∈ A ++ R → csp W t = 0 ∧ ((sv S t).pc = 4 ∨ (sv S t).pc = 5)
  a5 : ∀ t, t ∈ A → (sv S t).pc = 5
  chR : Lks (CLk W S) R
  tl : ctl W = num (lastD h R)
  end0 : cnx W (lastD h R) = 0
/-- those put aside -/
def Asd (W : List Int) (A : List Nat) : Prop := Lks (fun p s => cnx W p = num s) A ∧ ∀ l, A.getLast? = some l → cnx W l = 0
def Asl (W : List Int) (A : List Nat) : Prop := ∀ a l, A.head? = some a → A.getLast? = some l → cla W a = num l
def vA (A : List Nat) : Int := match A.head? with | some a => num a | none => -1
theorem vA_pos {A : List Nat} : 0 < vA A ↔ A ≠ [] := by
  cases A with
  | nil => simp [vA]
  | cons a l => simp [vA, num]
    <;> omega
theorem vA_some {A : List Nat} {a : Nat} (h : A.head? = some a) : vA A = num a := by unfold vA; rw [h]
theorem vA_ne (A : List Nat) : vA A ≠ 0 := by
  cases A with
  | nil => simp [vA]
  | cons a l => simp [vA, num]; omega
def Lead (S : List Sp) (R : List Nat) (x : Int) : Prop := ∃ f, R.head? = some f ∧ (sv S f).pc = 5 ∧ x = num f
def in3 (x : Int) (l : List Int) : Prop := x ∈ l
/-- how far the first one is, and what it knows -/
structure CPh (n : Nat) (bud : Int) (node : Nat → Int) (W : List Int) (w : Wk) (S : List Sp) (h : Nat) (A R : List Nat) (p : Sp) : Prop where
  pcs : p.pc = 5 ∨ p.pc = 6 ∨ (10 ≤ p.pc ∧ p.pc ≤ 30)
  front : p.pc ≤ 16 → ∀ f, R.head? = some f → CLk W S h f
  some_ : 16 ≤ p.pc → R ≠ []
  leadA : p.pc ∈ [17, 18, 19, 23, 24, 25, 26, 29, 30] → Lead S R p.a
  leadB : p.pc = 27 ∨ p.pc = 28 → Lead S R p.b
  leadF : p.pc = 20 ∨ p.pc = 21 ∨ p.pc = 22 → Lead S R w.found
  asd : p.pc ∉ [20, 21] → Asd W A
  asl : p.pc ∉ [20, 21, 22] → Asl W A
  own : p.pc = 5 ∨ p.pc = 10 ∨ p.pc = 11 → csp W h = vA A
  b : p.pc ∈ [12, 13, 14, 15, 16, 17, 18, 19, 20, 21, 22, 23, 24, 25, 26] → p.b = vA A
  none_ : p.pc ∈ [6, 13, 27, 28, 29, 30] → A = []
  some2 : p.pc ∈ [14, 15, 25, 26] → A ≠ []
  c : p.pc = 15 ∨ p.pc = 26 → ∀ l, A.getLast? = some l → p.c = num l
  walk : p.pc = 18 → w.way = true ∧ w.node = node h ∧ w.found = 0 ∧ ∃ P R', R = P ++ R' ∧ P ≠ [] ∧ w.passed = P.length ∧ (∀ l, P.getLast? = some l → w.last = num l) ∧ ∀ t ∈ P, (sv S t).pc = 5
  found : p.pc = 19 → ∃ P R' f, R = P ++ f :: R' ∧ P ≠ [] ∧ w.found = num f ∧ (sv S f).pc = 5 ∧ (∀ l, P.getLast? = some l → w.last = num l) ∧ ∀ t ∈ P, (sv S t).pc = 5
  put : p.pc = 20 ∨ p.pc = 21 → ∃ A0 P, A = A0 ++ P ∧ A0 ≠ [] ∧ P ≠ [] ∧ Asd W A0 ∧ Asl W A0 ∧ Asd W P ∧ (∀ a, P.head? = some a → p.a = num a) ∧ (∀ l, P.getLast? = some l → w.last = num l) ∧ (p.pc = 21 → ∀ l, A0.getLast? = some l → p.c = num l)
  put2 : p.pc = 22 → A ≠ [] ∧ ∀ l, A.getLast? = some l → w.last = num l
  ct0 : 0 ≤ cct W
  ct : cct W ≤ bud
  ctlt : p.pc ∈ [18, 19, 20, 21, 22, 23] → cct W < bud
/-- nobody has the lock, nobody waits -/
structure CFr (n : Nat) (bud : Int) (W : List Int) (S : List Sp) : Prop where
  wl : W.length = 2 + 3 * n
  sl : S.length = n
  out : ∀ t, t < n → (0 ≤ (sv S t).pc ∧ (sv S t).pc ≤ 3) ∧ (2 ≤ (sv S t).pc → cnx W t = 0) ∧ ((sv S t).pc = 3 → csp W t = 0)
  tl : ctl W = 0
  ct0 : 0 ≤ cct W
  ct : cct W ≤ bud
end Go.Proofs.YtkdaiomjbkpedaaGreat
end
section
/- Regions whose loads are held: the held facts may grow on the way. -/
namespace Go.Proofs.YtkdaiomjbkpedaaGreat
open Go.RowKit
theorem wpAnyH_more {P : Program} {md : Region.Mode} {ops : Array Oper} {Q : Exit → Act → World → Prop} {S S' : World → Prop} (hSS : ∀ w, S' w → S w) : ∀ (fuel : Nat) (listed : Array Bool) (a : Act) (w : World), wpAnyH P md ops Q S' fuel listed a w → wpAnyH P md ops Q S fuel listed a w
  | 0, _, _, _, h => h
  | fuel + 1, _, _, _, h => ⟨h.1, fun i hi => wpOp_mono (fun a' w' h' => ⟨hSS _ h'.1, wpAnyH_more hSS fuel _ a' w' h'.2⟩) (h.2 i hi)⟩
theorem shut_more {P : Program} {md : Region.Mode} {ops : Array Oper} {Q : Exit → Act → World → Prop} {S S' : World → Prop} {K : Act → World → Prop} {fuel : Nat} {listed : Array Bool} (hSS : ∀ w, S' w → S w)
    (hK : Shut (∀ a w, S w → (S w → wpAnyH P md ops Q S fuel listed a w) → K a w)) :
    (Shut (∀ a w, S w → (S w → wpAnyH P md ops Q S fuel listed a w) → K a w)) = Shut (∀ a w, S' w → (S' w → wpAnyH P md ops Q S' fuel listed a w) → K a w) :=
  propext ⟨fun _ => fun a w hS' hW => hK.out a w (hSS w hS') (fun _ => wpAnyH_more hSS fuel listed a w (hW hS')), fun _ => hK⟩
end Go.Proofs.YtkdaiomjbkpedaaGreat
end
section
/- Layer 30 (scan): a walk in memory: is, take, Begin, Over, Found, Last. -/
namespace Go.Proofs.YtkdaiomjbkpedaaGreat
open Go.RowKit

def wkC (beh : Value) (n1 n : Nat) (x : Wk) : Array Value := #[beh, .slice (some ⟨n1, 0, none⟩) n n, .int .i64 x.node, .bool x.way, .int .i64 x.passed, .int .i64 x.last, .int .i64 x.found]
structure WkIs (w : World) (k n1 : Nat) (beh : Value) (nd : List Int) (x : Wk) : Prop where
  blk : Blk w k 149 (wkC beh n1 nd.length x)
  row : Blk w n1 3 (nd.map (Value.int .i64)).toArray
  ne : k ≠ n1
  n32 : nd.length ≤ 32
def ndf (nd : List Int) (t : Nat) : Int := nd.getD t 0
section
variable {w w' : World} {k n1 : Nat} {beh : Value} {nd : List Int} {x : Wk}
theorem WkIs.c0 (h : WkIs w k n1 beh nd x) : w.cell? ⟨k, 0, none⟩ = some beh := h.blk.cell 0
theorem WkIs.c1 (h : WkIs w k n1 beh nd x) : w.cell? ⟨k, 1, none⟩ = some (.slice (some ⟨n1, 0, none⟩) nd.length nd.length) := h.blk.cell 1
theorem WkIs.c2 (h : WkIs w k n1 beh nd x) : w.cell? ⟨k, 2, none⟩ = some (.int .i64 x.node) := h.blk.cell 2
theorem WkIs.c3 (h : WkIs w k n1 beh nd x) : w.cell? ⟨k, 3, none⟩ = some (.bool x.way) := h.blk.cell 3
theorem WkIs.c4 (h : WkIs w k n1 beh nd x) : w.cell? ⟨k, 4, none⟩ = some (.int .i64 x.passed) := h.blk.cell 4
theorem WkIs.c5 (h : WkIs w k n1 beh nd x) : w.cell? ⟨k, 5, none⟩ = some (.int .i64 x.last) := h.blk.cell 5
theorem WkIs.c6 (h : WkIs w k n1 beh nd x) : w.cell? ⟨k, 6, none⟩ = some (.int .i64 x.found) := h.blk.cell 6
theorem WkIs.nat (h : WkIs w k n1 beh nd x) {m : Nat} (hm : m < nd.length) : w.cell? ⟨n1, m, none⟩ = some (.int .i64 (ndf nd m)) := by
  rw [h.row.cell m]
  unfold ndf
  simp [List.getD_eq_getElem?_getD, List.getElem?_eq_getElem hm]
theorem WkIs.turns {S : List Nat} (h : WkIs w k n1 beh nd x) (t : Turns S w w') (h1 : k ∉ S) (h2 : n1 ∉ S) : WkIs w' k n1 beh nd x := ⟨t.blk h.blk h1, t.blk h.row h2, h.ne, h.n32⟩
theorem WkIs.below (h : WkIs w k n1 beh nd x) (t : Below w.heap.size w w') : WkIs w' k n1 beh nd x := h.turns (Turns.of_below (S := []) t) (by simp) (by simp)
theorem WkIs.put (h : WkIs w k n1 beh nd x) {i : Nat} {v : Value} {x' : Wk} (e : (wkC beh n1 nd.length x).setIfInBounds i v = wkC beh n1 nd.length x') : WkIs (w.setCell ⟨k, i, none⟩ v) k n1 beh nd x' := by
  refine ⟨?_, h.row.far (fun e => h.ne e.symm) _, h.ne, h.n32⟩
  have := h.blk.set_ i v
  rw [e] at this
  exact this
theorem turns_k {k : Nat} (w : World) (i : Nat) (v : Value) : Turns [k] w (w.setCell ⟨k, i, none⟩ v) := (Turns.refl _ _).setCell (.inl (by simp)) _
theorem isW (h : WkIs w k n1 beh nd x) (y : Int) (b : Bool) (hb : decide (1 ≤ y ∧ y ≤ nd.length) = b) : Calls Tryz.prog 153 #[.pointer (some ⟨k, 0, none⟩), .int .i64 y] w fun e w' => e = .returned (.bool b) ∧ w = w' := by
  have c1 := h.c1
  have HB := Lib.hid hb
  clear h hb
  by_cases h1 : 1 ≤ y
  · go_enter Tryz.func153, Tryz.ntmps153
    go_wp2
    go_ret
    exact ⟨ret_bool (by rw [← HB.out]; simp [h1]), rfl⟩
  · go_enter Tryz.func153, Tryz.ntmps153
    go_wp2
    go_ret
    exact ⟨ret_bool (by rw [← HB.out]; symm; exact decide_eq_false (by omega)), rfl⟩
def TakeD (w : World) (k n1 : Nat) (beh : Value) (nd : List Int) (x' : Wk) (e : Ending) (w' : World) : Prop := e = .returned (.bool (!x'.way)) ∧ WkIs w' k n1 beh nd x' ∧ Turns [k] w w'
set_option maxHeartbeats 2000000 in
theorem takeWk (h : WkIs w k n1 beh nd x) (hp : 0 ≤ x.passed ∧ x.passed ≤ 32) (y : Int) : Calls Tryz.prog 130 #[.pointer (some ⟨k, 0, none⟩), .int .i64 y] w (TakeD w k n1 beh nd (takeW nd.length (ndf nd) x y)) := by
  have hd := Lib.hid (fun m => h.below (Qt.below ⟨m, rfl⟩ _))
  obtain ⟨hp0, hp1⟩ := hp
  have hk := h.blk.lt
  have hn := h.n32
  by_cases h1 : 1 ≤ y ∧ y ≤ nd.length
  · have HI := Lib.hid (fun W (h : WkIs W k n1 beh nd x) => isW h y true (decide_eq_true h1))
    have c1 := h.c1
    have c3 := h.c3
    have c4 := h.c4
    have c5 := h.c5
    have c6 := h.c6
    have z3 := h.blk.free 3
    by_cases h2 : x.passed = nd.length
    · have t4 : (x.passed == (nd.length : Int)) = true := by simpa using h2
      have HT : Hid (takeW nd.length (ndf nd) x y = { x with way := false }) := Lib.hid (by unfold takeW; rw [if_pos (.inr h2)])
      clear h h2
      go_enter Tryz.func130, Tryz.ntmps130
      go_wp2_with fail
      go_quiet ((go_at_call 153; exact quiet_left (HI.out _ (hd.out _))))
      go_wp2
      go_ret
      rw [HT.out]
      exact ⟨rfl, (hd.out _).put rfl, (Turns.of_qt ⟨_, rfl⟩).trans (turns_k _ _ _)⟩
    · have t4 : (x.passed == (nd.length : Int)) = false := by simpa using h2
      obtain ⟨h1a, h1b⟩ := h1
      obtain ⟨m, rfl⟩ : ∃ m : Nat, y = (m : Int) + 1 := ⟨(y - 1).toNat, by omega⟩
      have hm : m < nd.length := by omega
      have hmi : (m : Int) < (nd.length : Int) := by omega
      have c2 := h.c2
      have cn := h.nat hm
      have z4 := h.blk.free 4
      have z5 := h.blk.free 5
      have z6 := h.blk.free 6
      have kn := h.ne
      have x1 : IntKind.i64.wrap (x.passed + 1) = x.passed + 1 := IntWalk.i64_in _ (by omega)
      by_cases h3 : ndf nd m = x.node
      · have t5 : (ndf nd m == x.node) = true := by simpa using h3
        have HT : Hid (takeW nd.length (ndf nd) x ((m : Int) + 1) = { x with way := false, found := (m : Int) + 1 }) := Lib.hid (by
          unfold takeW; rw [if_neg (by omega), if_pos (by rw [show ((m : Int) + 1 - 1).toNat = m by omega]; exact h3)])
        have KH := Lib.hid h
        clear h h2 h3
        go_enter Tryz.func130, Tryz.ntmps130
        go_wp2_with fail
        go_quiet ((go_at_call 153; exact quiet_left (HI.out _ (hd.out _))))
        go_wp2
        go_quiet (fail)
        go_wp2
        go_ret
        rw [HT.out]
        refine ⟨rfl, ?_, ((Turns.of_qt ⟨_, rfl⟩).trans (turns_k _ _ _)).trans (turns_k _ _ _)⟩
        exact (WkIs.put (x' := { x with way := false }) (hd.out _) rfl).put rfl
      · have t5 : (ndf nd m == x.node) = false := by simpa using h3
        have HT : Hid (takeW nd.length (ndf nd) x ((m : Int) + 1) = { x with way := true, last := (m : Int) + 1, passed := x.passed + 1 }) := Lib.hid (by
          unfold takeW; rw [if_neg (by omega), if_neg (by rw [show ((m : Int) + 1 - 1).toNat = m by omega]; exact h3)])
        have KH := Lib.hid h
        clear h h2 h3
        go_enter Tryz.func130, Tryz.ntmps130
        go_wp2_with fail
        go_quiet ((go_at_call 153; exact quiet_left (HI.out _ (hd.out _))))
        go_wp2
        go_quiet (fail)
        go_wp2
        go_ret
        rw [HT.out]
        refine ⟨rfl, ?_, (((Turns.of_qt ⟨_, rfl⟩).trans (turns_k _ _ _)).trans (turns_k _ _ _)).trans (turns_k _ _ _)⟩
        exact (WkIs.put (x' := { x with way := true, last := (m : Int) + 1 }) (WkIs.put (x' := { x with way := true }) (hd.out _) rfl) rfl).put rfl
  · have HI := Lib.hid (fun W (h : WkIs W k n1 beh nd x) => isW h y false (decide_eq_false h1))
    have c3 := h.c3
    have z3 := h.blk.free 3
    have HT : Hid (takeW nd.length (ndf nd) x y = { x with way := false }) := Lib.hid (by unfold takeW; rw [if_pos (.inl h1)])
    clear h h1
    go_enter Tryz.func130, Tryz.ntmps130
    go_wp2_with fail
    go_quiet ((go_at_call 153; exact quiet_left (HI.out _ (hd.out _))))
    go_wp2
    go_ret
    rw [HT.out]
    exact ⟨rfl, (hd.out _).put rfl, (Turns.of_qt ⟨_, rfl⟩).trans (turns_k _ _ _)⟩
set_option maxHeartbeats 1000000 in
theorem beginWk (h : WkIs w k n1 beh nd x) (y v : Int) : Calls Tryz.prog 98 #[.pointer (some ⟨k, 0, none⟩), .int .i64 y, .int .i64 v] w (TakeD w k n1 beh nd (beginW nd.length (ndf nd) x y v)) := by
  have k1 : WkIs (w.setCell ⟨k, 2, none⟩ (.int .i64 v)) k n1 beh nd { x with node := v } := h.put rfl
  have k2 : WkIs _ k n1 beh nd { x with node := v, passed := 0 } := k1.put (i := 4) (v := .int .i64 0) rfl
  have k3 : WkIs _ k n1 beh nd { x with node := v, passed := 0, last := 0 } := k2.put (i := 5) (v := .int .i64 0) rfl
  have k4 : WkIs _ k n1 beh nd { x with node := v, passed := 0, last := 0, found := 0 } := k3.put (i := 6) (v := .int .i64 0) rfl
  have K4 := Lib.hid k4
  have z2 := h.blk.free 2
  have z4 := h.blk.free 4
  have z5 := h.blk.free 5
  have z6 := h.blk.free 6
  have hk := h.blk.lt
  have c2 := h.c2
  have c4 := h.c4
  have c5 := h.c5
  have c6 := h.c6
  clear h k1 k2 k3 k4
  go_enter Tryz.func98, Tryz.ntmps98
  go_wp2_with fail
  refine (takeWk K4.out ⟨Int.le_refl _, by show (0 : Int) ≤ 32; decide⟩ y).mono ?_
  rintro en w1 ⟨rfl, h1, t1⟩
  have H1 := Lib.hid (And.intro h1 ((((turns_k (k := k) w 2 (.int .i64 v)).trans (turns_k _ 4 (.int .i64 0))).trans (turns_k _ 5 (.int .i64 0))).trans (turns_k _ 6 (.int .i64 0)) |>.trans t1))
  clear h1 t1
  go_wp2
  go_ret
  exact ⟨rfl, H1.out.1, H1.out.2⟩
theorem overW (h : WkIs w k n1 beh nd x) : Calls Tryz.prog 131 #[.pointer (some ⟨k, 0, none⟩)] w fun e w' => e = .returned (.bool (!x.way)) ∧ w = w' := by
  have c3 := h.c3
  clear h
  go_enter Tryz.func131, Tryz.ntmps131
  go_wp2
  go_ret
  exact ⟨rfl, rfl⟩
theorem foundW (h : WkIs w k n1 beh nd x) : Calls Tryz.prog 100 #[.pointer (some ⟨k, 0, none⟩)] w fun e w' => e = .returned (.int .i64 x.found) ∧ w = w' := by
  have c3 := h.c6
  clear h
  go_enter Tryz.func100, Tryz.ntmps100
  go_wp2
  go_ret
  exact ⟨rfl, rfl⟩
theorem lastWk (h : WkIs w k n1 beh nd x) : Calls Tryz.prog 101 #[.pointer (some ⟨k, 0, none⟩)] w fun e w' => e = .returned (.int .i64 x.last) ∧ w = w' := by
  have c3 := h.c5
  clear h
  go_enter Tryz.func101, Tryz.ntmps101
  go_wp2
  go_ret
  exact ⟨rfl, rfl⟩
end
end Go.Proofs.YtkdaiomjbkpedaaGreat
end
