/- Joined: Ar2, Ar2S, Ar2C, SpI, Rg1. -/
import Derived.Laws.Externs
import Derived.Test.YtkdaiomjbkpedaaGreatRows
import Derived.RegionCalls
import Derived.Test.YtkdaiomjbkpedaaGreatMgHmcsU1
section
/- Layer 1: what the arena's ops do. -/
namespace Go.Proofs.YtkdaiomjbkpedaaGreat
open Go.RowKit

theorem run_call_swap {P : Program} {f : FuncId} {fn : Func} (hf : P.funcs[f]? = some fn) (hname : (fn.name == "runtime.NumGoroutine") = false) (hb : fn.body.isNone = true) (hn : Extern.findNext fn = none) (k : IntKind)
    (he : Extern.find fn = some (Extern.Atomic.swapT (.int k))) {a : Addr} {x y : Int} {w : World} (hc : w.cell? a = some (.int k x)) (hz : w.frozen? a = false) :
    (callFunc f #[.pointer (some a), .int k y]).run P w = .ok (.value (.int k x)) (w.setCell a (.int k y)) := by
  rw [run_callFunc_extern hf hname hb hn he]
  change (Sem.run P (do
    let a' ← asAddr (.pointer (some a))
    let old ← Extern.Atomic.read (.int k) a'
    store a' (.int k y) .atomic
    pure old) w).andThen _ = _
  simp [Extern.Atomic.read, asAddr, hc, hz, run_store P w a (.int k y) .atomic rfl, Result.andThen]

theorem aload (w : World) (p : Addr) (x : Int) (hc : w.cell? p = some (.int .i64 x)) (hp : p.spot = none) :
    Calls Tryz.prog 83 #[.pointer (some p)] w fun e w' => e = .returned (.int .i64 x) ∧ w = w' := by
  obtain ⟨b, o, sp⟩ := p
  obtain rfl : sp = none := hp
  have hl := run_call_load (P := Tryz.prog) Tryz.func121 (by kernel_rfl) (by kernel_rfl) (by kernel_rfl) .i64 (by kernel_rfl) hc
  clear hc
  go_enter Tryz.func83, Tryz.ntmps83
  go_wp2
  go_ret
  exact ⟨rfl, rfl⟩
theorem aswap (w : World) (b o : Nat) (x y : Int) (hc : w.cell? ⟨b, o, none⟩ = some (.int .i64 x)) (hz : w.frozen? ⟨b, o, none⟩ = false) :
    Calls Tryz.prog 128 #[.pointer (some ⟨b, o, none⟩), .int .i64 y] w fun e w' => e = .returned (.int .i64 x) ∧ w' = w.setCell ⟨b, o, none⟩ (.int .i64 y) := by
  have hl := run_call_swap (P := Tryz.prog) Tryz.func151 (by kernel_rfl) (by kernel_rfl) (by kernel_rfl) .i64 (by kernel_rfl) (y := y) hc hz
  go_enter Tryz.func128, Tryz.ntmps128
  go_wp2
  go_ret
  exact ⟨rfl, rfl⟩
theorem ArIs.put {w : World} {a g : Nat} {s : Ar} (h : ArIs w a g s) {x : Int} (hx : inR s.W x = true) (v : Int) :
    ArIs (w.setCell ⟨g, x.toNat - 1, none⟩ (.int .i64 v)) a g (wrA s x v) ∧ Turns [a, g] w (w.setCell ⟨g, x.toNat - 1, none⟩ (.int .i64 v)) := by
  have h12 := inR_true.1 hx
  refine ⟨⟨?_, ?_, h.ne, ?_, h.room, h.ops⟩, (Turns.refl _ _).setCell (.inl (by simp)) _⟩
  · have := h.blk.far (p := ⟨g, x.toNat - 1, none⟩) h.ne (.int .i64 v)
    have e : arCells g (wrA s x v) = arCells g s := by unfold arCells wrA; rw [stW_len]
    rw [e]; exact this
  · have := h.wds.set_ (x.toNat - 1) (.int .i64 v)
    rw [wdL_set s (by omega)] at this
    have e : wrA s x v = { s with W := s.W.set (x.toNat - 1) v } := by unfold wrA stW; rw [if_pos hx]
    rw [e]; exact this
  · show (stW s.W x v).length ≤ _
    rw [stW_len]; exact h.le
theorem turns_ag {a g : Nat} {w w' : World} (h : Turns [a] w w') : Turns [a, g] w w' := h.mono (by simp)
def OpDone (w : World) (a g : Nat) (s' : Ar) (r : Value) (e : Ending) (w' : World) : Prop := e = .returned r ∧ ArIs w' a g s' ∧ Turns [a, g] w w'

theorem load_any {w : World} {a g : Nat} {s : Ar} (h : ArIs w a g s) (x : Int) (ho : s.ops + 1 ≤ 1000000000000) :
    Calls Tryz.prog 94 #[.pointer (some ⟨a, 0, none⟩), .int .i64 x] w (OpDone w a g (loadA s x) (.int .i64 (ldW s.W x))) := by
  have H := Lib.hid h
  cases hx : inR s.W x
  · have e : OpDone w a g (loadA s x) (.int .i64 (ldW s.W x)) (.returned (.int .i64 0)) w := ⟨by rw [ldW_out hx], by unfold loadA; rw [noteA_out s _ _ _ hx]; exact h, Turns.refl _ _⟩
    have HX := Lib.hid hx
    clear h hx
    go_enter Tryz.func94, Tryz.ntmps94
    go_wp2_with fail
    refine (word_out H.out x HX.out).mono ?_
    rintro en w1 ⟨rfl, rfl⟩
    go_wp2
    go_ret
    exact e
  · have HX := Lib.hid hx
    have HE := Lib.hid (ldW_in hx)
    have h12 := inR_true.1 hx
    have hil : x.toNat - 1 < s.W.length := by omega
    clear h hx
    go_enter Tryz.func94, Tryz.ntmps94
    go_wp2_with fail
    refine (word_in H.out x HX.out).mono ?_
    rintro en w1 ⟨rfl, rfl⟩
    go_wp2_with fail
    refine (note_any H.out 1 x false HX.out ho).mono ?_
    rintro en w1 ⟨rfl, h1, t1⟩
    have hc := (h1.word (i := x.toNat - 1) (by rw [noteA_W]; exact hil)).1
    rw [noteA_W] at hc
    have H1 := Lib.hid (And.intro h1 t1)
    clear h1 t1
    go_wp2_with fail
    refine (aload _ _ _ hc rfl).mono ?_
    rintro en w2 ⟨rfl, rfl⟩
    clear hc
    rw [← HE.out]
    obtain ⟨r, hr⟩ : ∃ r, r = ldW s.W x := ⟨_, rfl⟩
    rw [← hr]
    have HR := Lib.hid hr
    clear hr
    go_wp2
    go_ret
    exact ⟨by rw [HR.out]; rfl, H1.out.1, turns_ag H1.out.2⟩
theorem swap_any {w : World} {a g : Nat} {s : Ar} (h : ArIs w a g s) (x v : Int) (ho : s.ops + 1 ≤ 1000000000000) :
    Calls Tryz.prog 92 #[.pointer (some ⟨a, 0, none⟩), .int .i64 x, .int .i64 v] w (OpDone w a g (swapA s x v) (.int .i64 (ldW s.W x))) := by
  have H := Lib.hid h
  cases hx : inR s.W x
  · have e : OpDone w a g (swapA s x v) (.int .i64 (ldW s.W x)) (.returned (.int .i64 0)) w := ⟨by rw [ldW_out hx], by unfold swapA; rw [noteA_out s _ _ _ hx, wrA_out s _ _ hx]; exact h, Turns.refl _ _⟩
    have HX := Lib.hid hx
    clear h hx
    go_enter Tryz.func92, Tryz.ntmps92
    go_wp2_with fail
    refine (word_out H.out x HX.out).mono ?_
    rintro en w1 ⟨rfl, rfl⟩
    go_wp2
    go_ret
    exact e
  · have HX := Lib.hid hx
    have HE := Lib.hid (ldW_in hx)
    have h12 := inR_true.1 hx
    have hil : x.toNat - 1 < s.W.length := by omega
    clear h hx
    go_enter Tryz.func92, Tryz.ntmps92
    go_wp2_with fail
    refine (word_in H.out x HX.out).mono ?_
    rintro en w1 ⟨rfl, rfl⟩
    go_wp2_with fail
    refine (note_any H.out 3 x true HX.out ho).mono ?_
    rintro en w1 ⟨rfl, h1, t1⟩
    have hc := h1.word (i := x.toNat - 1) (by rw [noteA_W]; exact hil)
    rw [noteA_W] at hc
    have hp := h1.put (x := x) (by rw [noteA_W]; exact HX.out) v
    have H1 := Lib.hid (And.intro hp t1)
    have HC := Lib.hid hc
    clear h1 t1 hp hc
    go_wp2_with fail
    refine (aswap _ _ _ _ _ HC.out.1 HC.out.2).mono ?_
    rintro en w2 ⟨rfl, rfl⟩
    rw [← HE.out]
    obtain ⟨r, hr⟩ : ∃ r, r = ldW s.W x := ⟨_, rfl⟩
    rw [← hr]
    have HR := Lib.hid hr
    clear hr
    go_wp2
    go_ret
    exact ⟨by rw [HR.out]; rfl, H1.out.1.1, (turns_ag H1.out.2).trans H1.out.1.2⟩
end Go.Proofs.YtkdaiomjbkpedaaGreat
end
section
/- Layer 1: what Store does. -/
namespace Go.Proofs.YtkdaiomjbkpedaaGreat
open Go.RowKit

theorem astore (w : World) (b o : Nat) (x y : Int) (hc : w.cell? ⟨b, o, none⟩ = some (.int .i64 x)) (hz : w.frozen? ⟨b, o, none⟩ = false) :
    Calls Tryz.prog 127 #[.pointer (some ⟨b, o, none⟩), .int .i64 y] w fun e w' => e = .returned (.tuple #[]) ∧ w' = w.setCell ⟨b, o, none⟩ (.int .i64 y) := by
  have hl := run_call_store (P := Tryz.prog) Tryz.func150 (by kernel_rfl) (by kernel_rfl) (by kernel_rfl) (by kernel_rfl) (k := .i64) (y := y) hc hz
  go_enter Tryz.func127, Tryz.ntmps127
  go_wp2
  go_end0
  exact ⟨rfl, rfl⟩
theorem store_any {w : World} {a g : Nat} {s : Ar} (h : ArIs w a g s) (x v : Int) (ho : s.ops + 1 ≤ 1000000000000) :
    Calls Tryz.prog 90 #[.pointer (some ⟨a, 0, none⟩), .int .i64 x, .int .i64 v] w (OpDone w a g (storeA s x v) (.tuple #[])) := by
  have H := Lib.hid h
  cases hx : inR s.W x
  · have e : OpDone w a g (storeA s x v) (.tuple #[]) (.returned (.tuple #[])) w := ⟨rfl, by unfold storeA; rw [noteA_out s _ _ _ hx, wrA_out s _ _ hx]; exact h, Turns.refl _ _⟩
    have HX := Lib.hid hx
    clear h hx
    go_enter Tryz.func90, Tryz.ntmps90
    go_wp2_with fail
    refine (word_out H.out x HX.out).mono ?_
    rintro en w1 ⟨rfl, rfl⟩
    go_wp2
    go_end0
    exact e
  · have HX := Lib.hid hx
    have h12 := inR_true.1 hx
    have hil : x.toNat - 1 < s.W.length := by omega
    clear h hx
    go_enter Tryz.func90, Tryz.ntmps90
    go_wp2_with fail
    refine (word_in H.out x HX.out).mono ?_
    rintro en w1 ⟨rfl, rfl⟩
    go_wp2_with fail
    refine (note_any H.out 2 x true HX.out ho).mono ?_
    rintro en w1 ⟨rfl, h1, t1⟩
    have hc := h1.word (i := x.toNat - 1) (by rw [noteA_W]; exact hil)
    have hp := h1.put (x := x) (by rw [noteA_W]; exact HX.out) v
    have H1 := Lib.hid (And.intro hp t1)
    have HC := Lib.hid hc
    clear h1 t1 hp hc
    go_wp2_with fail
    refine (astore _ _ _ _ _ HC.out.1 HC.out.2).mono ?_
    rintro en w2 ⟨rfl, rfl⟩
    go_wp2
    go_end0
    exact ⟨rfl, H1.out.1.1, (turns_ag H1.out.2).trans H1.out.1.2⟩
end Go.Proofs.YtkdaiomjbkpedaaGreat
end
section
/- Layer 1: what Cas does. -/
namespace Go.Proofs.YtkdaiomjbkpedaaGreat
open Go.RowKit

theorem acas_hit (w : World) (b o : Nat) (x y : Int) (hc : w.cell? ⟨b, o, none⟩ = some (.int .i64 x)) (hz : w.frozen? ⟨b, o, none⟩ = false) :
    Calls Tryz.prog 129 #[.pointer (some ⟨b, o, none⟩), .int .i64 x, .int .i64 y] w fun e w' => e = .returned (.bool true) ∧ w' = w.setCell ⟨b, o, none⟩ (.int .i64 y) := by
  have hl := run_call_cas_hit (P := Tryz.prog) Tryz.func152 (by kernel_rfl) (by kernel_rfl) (by kernel_rfl) .i64 (by kernel_rfl) (y := y) hc hz
  go_enter Tryz.func129, Tryz.ntmps129
  go_wp2
  go_ret
  exact ⟨rfl, rfl⟩
theorem acas_miss (w : World) (b o : Nat) (x old y : Int) (hc : w.cell? ⟨b, o, none⟩ = some (.int .i64 x)) (hz : w.frozen? ⟨b, o, none⟩ = false) (hne : ¬ x = old) :
    Calls Tryz.prog 129 #[.pointer (some ⟨b, o, none⟩), .int .i64 old, .int .i64 y] w fun e w' => e = .returned (.bool false) ∧ w = w' := by
  have hl := run_call_cas_miss (P := Tryz.prog) Tryz.func152 (by kernel_rfl) (by kernel_rfl) (by kernel_rfl) .i64 (by kernel_rfl) (o := old) (y := y) hc hz hne
  clear hne
  go_enter Tryz.func129, Tryz.ntmps129
  go_wp2
  go_ret
  exact ⟨rfl, rfl⟩

theorem cas_any {w : World} {a g : Nat} {s : Ar} (h : ArIs w a g s) (x old v : Int) (ho : s.ops + 1 ≤ 1000000000000) :
    Calls Tryz.prog 95 #[.pointer (some ⟨a, 0, none⟩), .int .i64 x, .int .i64 old, .int .i64 v] w (OpDone w a g (casA s x old v) (.bool (casB s x old))) := by
  have H := Lib.hid h
  cases hx : inR s.W x
  · have e : OpDone w a g (casA s x old v) (.bool (casB s x old)) (.returned (.bool false)) w := ⟨by unfold casB; rw [hx]; rfl, by
      have hb : casB s x old = false := by unfold casB; rw [hx]; rfl
      unfold casA; rw [hb, noteA_out s 4 x false hx]; exact h, Turns.refl _ _⟩
    have HX := Lib.hid hx
    clear h hx
    go_enter Tryz.func95, Tryz.ntmps95
    go_wp2_with fail
    refine (word_out H.out x HX.out).mono ?_
    rintro en w1 ⟨rfl, rfl⟩
    go_wp2
    go_ret
    exact e
  · have HX := Lib.hid hx
    have h12 := inR_true.1 hx
    have hil : x.toNat - 1 < s.W.length := by omega
    have hc := h.word (i := x.toNat - 1) hil
    rw [← ldW_in hx] at hc
    by_cases heq : ldW s.W x = old
    · have hb : casB s x old = true := by unfold casB; rw [hx, heq]; simp
      have hp := h.put hx v
      have HP := Lib.hid (And.intro hp hb)
      rw [heq] at hc
      have HC := Lib.hid hc
      clear h hx hc hp heq hb
      go_enter Tryz.func95, Tryz.ntmps95
      go_wp2_with fail
      refine (word_in H.out x HX.out).mono ?_
      rintro en w1 ⟨rfl, rfl⟩
      go_wp2_with fail
      refine (acas_hit _ _ _ _ _ HC.out.1 HC.out.2).mono ?_
      rintro en w2 ⟨rfl, rfl⟩
      have h2 := HP.out.1.1
      have t2 := HP.out.1.2
      generalize (w.setCell ⟨g, x.toNat - 1, none⟩ (.int .i64 v)) = w2 at h2 t2 ⊢
      have H2 := Lib.hid (And.intro h2 t2)
      clear h2 t2
      go_wp2_with fail
      refine (note_any H2.out.1 4 x true (by unfold inR wrA; rw [stW_len]; exact HX.out) ho).mono ?_
      rintro en w3 ⟨rfl, h3, t3⟩
      have H3 := Lib.hid (And.intro h3 t3)
      clear h3 t3
      go_wp2
      go_ret
      refine ⟨by rw [HP.out.2]; rfl, ?_, H2.out.2.trans (turns_ag H3.out.2)⟩
      have e : casA s x old v = noteA (wrA s x v) 4 x true := by
        unfold casA; rw [HP.out.2, if_pos rfl]
        unfold noteA
        rw [if_pos HX.out, if_pos (by unfold inR wrA; rw [stW_len]; exact HX.out)]
        rfl
      rw [e]; exact H3.out.1
    · have hb : casB s x old = false := by unfold casB; rw [hx]; simpa using heq
      have HC := Lib.hid (And.intro hc (And.intro heq hb))
      clear h hx hc heq hb
      go_enter Tryz.func95, Tryz.ntmps95
      go_wp2_with fail
      refine (word_in H.out x HX.out).mono ?_
      rintro en w1 ⟨rfl, rfl⟩
      go_wp2_with fail
      refine (acas_miss _ _ _ _ _ _ HC.out.1.1 HC.out.1.2 HC.out.2.1).mono ?_
      rintro en w2 ⟨rfl, rfl⟩
      go_wp2_with fail
      refine (note_any H.out 4 x false HX.out ho).mono ?_
      rintro en w3 ⟨rfl, h3, t3⟩
      have H3 := Lib.hid (And.intro h3 t3)
      clear h3 t3
      go_wp2
      go_ret
      refine ⟨by rw [HC.out.2.2]; rfl, ?_, turns_ag H3.out.2⟩
      unfold casA
      rw [HC.out.2.2]
      exact H3.out.1
end Go.Proofs.YtkdaiomjbkpedaaGreat
end
section
/- Spots in a block of their own. -/
namespace Go.Proofs.YtkdaiomjbkpedaaGreat
open Go.RowKit

def encP4 (p : Sp) : List Value := [.int .i64 p.pc, .int .i64 p.a, .int .i64 p.b, .int .i64 p.c]
theorem encP4_len (p : Sp) : (encP4 p).length = 4 := rfl
/-- spots in a block of their own -/
def SpIs (w : World) (q : Nat) (S : List Sp) : Prop := Blk w q 35 (S.flatMap encP4).toArray
theorem SpIs.cell {w : World} {q : Nat} {S : List Sp} (h : SpIs w q S) {i : Nat} {p : Sp} (hp : S[i]? = some p) (j : Nat) (u : Value) (hu : (encP4 p)[j]? = some u) : w.cell? ⟨q, i * 4 + j, none⟩ = some u := by
  rw [Blk.cell h]
  simpa using getElem?_flatMap encP4 4 encP4_len S i p j u hp hu
theorem flatSet {α : Type} (enc : α → List Value) (sz : Nat) (hs : ∀ x, (enc x).length = sz) (l : List α) :
    ∀ k x x' j u, l[k]? = some x → j < sz → (enc x).set j u = enc x' → (l.flatMap enc).set (k * sz + j) u = (l.set k x').flatMap enc := by
  induction l with
  | nil => intro k x x' j u h; simp at h
  | cons a l ih =>
    intro k x x' j u h hj he
    cases k with
    | zero =>
      simp at h; subst h
      rw [List.set_cons_zero, List.flatMap_cons, List.flatMap_cons, List.set_append_left _ _ (by rw [hs]; omega)]
      simp [he]
    | succ k =>
      rw [List.set_cons_succ, List.flatMap_cons, List.flatMap_cons, List.set_append_right _ _ (by rw [hs, Nat.succ_mul]; omega), hs]
      have : (k + 1) * sz + j - sz = k * sz + j := by rw [Nat.succ_mul]; omega
      rw [this, ih k x x' j u (by simpa using h) hj he]
theorem SpIs.put {w : World} {q : Nat} {S : List Sp} (h : SpIs w q S) {i : Nat} {p p' : Sp} (hp : S[i]? = some p) {j : Nat} {u : Value} (hj : j < 4) (he : (encP4 p).set j u = encP4 p') :
    SpIs (w.setCell ⟨q, i * 4 + j, none⟩ u) q (S.set i p') := by
  have h1 := Blk.set_ h (i * 4 + j) u
  unfold SpIs
  rw [List.setIfInBounds_toArray, flatSet encP4 4 encP4_len S i p p' j u hp hj he] at h1
  exact h1
theorem SpIs.lt {w : World} {q : Nat} {S : List Sp} (h : SpIs w q S) : q < w.heap.size := Blk.lt h
theorem SpIs.free {w : World} {q : Nat} {S : List Sp} (h : SpIs w q S) (i : Nat) : w.frozen? ⟨q, i, none⟩ = false := Blk.free h i
theorem SpIs.turns {w w' : World} {q : Nat} {S : List Sp} {T : List Nat} (h : SpIs w q S) (k : Turns T w w') (hq : q ∉ T) : SpIs w' q S := k.blk h hq

def spotV (p : Sp) : Value := .agg #[.int .i64 p.pc, .int .i64 p.a, .int .i64 p.b, .int .i64 p.c]
theorem field_pc (a b c d : Int) (w : World) : (Instr.field 35 (.agg #[.int .i64 a, .int .i64 b, .int .i64 c, .int .i64 d]) 0).run Tryz.prog w = .ok (.int .i64 a) w := by kernel_rfl
end Go.Proofs.YtkdaiomjbkpedaaGreat
end
section
/- Layer 26: a rung as plain data; how it lies in memory. -/
namespace Go.Proofs.YtkdaiomjbkpedaaGreat
open Go.RowKit

/-- a lock's number, as the program reckons it -/
def nxA (t x : Int) : Int := wrap64 (wrap64 (t + wrap64 (2 * x)) - 1)
def stA (t x : Int) : Int := wrap64 (t + wrap64 (2 * x))
structure Rg where
  ar : Ar
  S : List Sp
/-- a step of a slot that comes in -/
def inR26 (s : Ar) (t x : Int) (p : Sp) : Ar × Sp :=
  if p.pc = 1 then (storeA s (nxA t x) 0, { p with pc := 2 })
  else if p.pc = 2 then (storeA s (stA t x) 0, { p with pc := 3 })
  else if p.pc = 3 then (swapA s t x, { p with a := ldW s.W t, pc := if ldW s.W t = 0 then 6 else 4 })
  else if p.pc = 4 then (storeA s (nxA t p.a) x, { p with pc := 5 })
  else if p.pc = 5 then (loadA s (stA t x), if 0 < ldW s.W (stA t x) then { p with a := ldW s.W (stA t x), b := 0, pc := 10 } else if ldW s.W (stA t x) < 0 then { p with a := ldW s.W (stA t x), pc := 6 } else { p with a := ldW s.W (stA t x), pc := 5 })
  else (storeA s (stA t x) 1, { p with a := 1, b := 1, pc := 10 })
/-- a step of a slot that goes out, or hands on -/
def outR26 (s : Ar) (t x : Int) (p : Sp) : Ar × Sp :=
  if p.pc = 12 then (casA s t x 0, { p with pc := if casB s t x then 0 else 13 })
  else if p.pc = 14 then (storeA s (stA t p.a) p.c, { p with pc := 0 })
  else if p.pc = 15 then (loadA s (nxA t x), { p with b := ldW s.W (nxA t x), pc := if ldW s.W (nxA t x) = 0 then 10 else 16 })
  else if p.pc = 16 then (storeA s (stA t p.b) p.c, { p with pc := 0 })
  else (loadA s (nxA t x), { p with a := ldW s.W (nxA t x), pc := if ldW s.W (nxA t x) ≠ 0 then 14 else if p.pc = 11 then 12 else 13 })
def stepP (s : Ar) (t x : Int) (p : Sp) : Ar × Sp := if p.pc < 10 then inR26 s t x p else outR26 s t x p
def stepRg (r : Rg) (t i : Int) : Rg × Bool :=
  if okI r.S i ∧ (getS r.S i).pc ≠ 0 ∧ (getS r.S i).pc ≠ 10 then
    (⟨(stepP r.ar t (i + 1) (getS r.S i)).1, r.S.set i.toNat (stepP r.ar t (i + 1) (getS r.S i)).2⟩, decide ((stepP r.ar t (i + 1) (getS r.S i)).2.pc = 0 ∨ (stepP r.ar t (i + 1) (getS r.S i)).2.pc = 10))
  else (r, false)
def beginRg (r : Rg) (i from_ to_ : Int) : Rg × Bool :=
  if okI r.S i ∧ (getS r.S i).pc = from_ then (⟨r.ar, r.S.set i.toNat { getS r.S i with pc := to_ }⟩, true) else (r, false)
def withRg (r : Rg) (i to_ v : Int) : Rg × Bool :=
  if okI r.S i ∧ (getS r.S i).pc = 10 then (⟨r.ar, r.S.set i.toNat { getS r.S i with pc := to_, c := v }⟩, true) else (r, false)

structure RgIs (w : World) (l a g q : Nat) (t : Int) (r : Rg) : Prop where
  ar : ArIs w a g r.ar
  lk : Blk w l 126 #[.pointer (some ⟨a, 0, none⟩), .int .i64 t, .slice (some ⟨q, 0, none⟩) r.S.length r.S.length]
  sp : SpIs w q r.S
  la : l ≠ a
  lg : l ≠ g
  lq : l ≠ q
  qa : q ≠ a
  qg : q ≠ g
  len : r.S.length ≤ 32
theorem RgIs.turns {w w' : World} {l a g q : Nat} {t : Int} {r : Rg} {T : List Nat} (h : RgIs w l a g q t r) (k : Turns T w w') (h1 : l ∉ T) (h2 : a ∉ T) (h3 : g ∉ T) (h4 : q ∉ T) : RgIs w' l a g q t r :=
  ⟨h.ar.turns k h2 h3, k.blk h.lk h1, h.sp.turns k h4, h.la, h.lg, h.lq, h.qa, h.qg, h.len⟩
theorem RgIs.below {w w' : World} {l a g q : Nat} {t : Int} {r : Rg} (h : RgIs w l a g q t r) (k : Below w.heap.size w w') : RgIs w' l a g q t r :=
  h.turns (T := []) (Turns.of_below k) (by simp) (by simp) (by simp) (by simp)
theorem slots_any {w : World} {l a g q : Nat} {t : Int} {r : Rg} (h : RgIs w l a g q t r) :
    Calls Tryz.prog 67 #[.pointer (some ⟨l, 0, none⟩)] w fun e w' => e = .returned (.int .i64 r.S.length) ∧ w = w' := by
  have c2 : w.cell? ⟨l, 2, none⟩ = some (.slice (some ⟨q, 0, none⟩) r.S.length r.S.length) := h.lk.cell 2
  clear h
  go_enter Tryz.func67, Tryz.ntmps67
  go_wp2
  go_ret
  exact ⟨rfl, rfl⟩
set_option maxHeartbeats 400000 in
theorem spot_any {w : World} {l a g q : Nat} {t : Int} {r : Rg} (h : RgIs w l a g q t r) (i : Int) :
    Calls Tryz.prog 63 #[.pointer (some ⟨l, 0, none⟩), .int .i64 i] w fun e w' => e = .returned (spotV (getS r.S i)) ∧ Below w.heap.size w w' := by
  have HN := h.len
  by_cases hi : okI r.S i
  · have hp := getS_in hi
    obtain ⟨p, hpp⟩ : ∃ p, p = getS r.S i := ⟨_, rfl⟩
    rw [← hpp] at hp ⊢
    have c2 : w.cell? ⟨l, 2, none⟩ = some (.slice (some ⟨q, 0, none⟩) r.S.length r.S.length) := h.lk.cell 2
    have a0 := h.sp.cell hp 0 _ rfl
    have a1 := h.sp.cell hp 1 _ rfl
    have a2 := h.sp.cell hp 2 _ rfl
    have a3 := h.sp.cell hp 3 _ rfl
    simp only [Nat.add_zero] at a0
    obtain ⟨h0, h1⟩ := hi
    obtain ⟨n, rfl⟩ := Int.eq_ofNat_of_zero_le h0
    simp only [Int.toNat_natCast] at a0 a1 a2 a3
    have hs1 := h.lk.lt
    have hs2 := h.sp.lt
    have t2 : ¬ (n : Int) < 0 := by omega
    have t3 : ¬ ((r.S.length : Nat) : Int) ≤ (n : Int) := by omega
    have t4 : n < r.S.length := by omega
    have H : Hid (RgIs (w.alloc (.cells #[.int .i64 0, .int .i64 0, .int .i64 0, .int .i64 0] 35)) l a g q t r) := Lib.hid (h.below ((Below.refl _ _).alloc (Nat.le_refl _) _))
    clear h hp hpp h0 h1
    go_enter Tryz.func63, Tryz.ntmps63
    go_wp2_with (go_at_call 67; refine (slots_any H.out).mono ?_; rintro e w' ⟨rfl, rfl⟩)
    exact bodyPost_ret (results_cell_row (by rfl) _ _ w.heap.size 35 _ (0, 0) _ (by rfl) (heap_alloc_new w _) Tryz.underlying35 rfl (by kernel_rfl)) rfl ⟨rfl, (Below.refl _ _).alloc (Nat.le_refl _) _⟩
  · have H : Hid (RgIs (w.alloc (.cells #[.int .i64 0, .int .i64 0, .int .i64 0, .int .i64 0] 35)) l a g q t r) := Lib.hid (h.below ((Below.refl _ _).alloc (Nat.le_refl _) _))
    rw [getS_out hi]
    unfold okI at hi
    clear h
    by_cases h0 : i < 0
    · go_enter Tryz.func63, Tryz.ntmps63
      go_wp2
      exact bodyPost_ret (results_cell_row (by rfl) _ _ w.heap.size 35 _ (0, 0) _ (by rfl) (heap_alloc_new w _) Tryz.underlying35 rfl (by kernel_rfl)) rfl ⟨rfl, (Below.refl _ _).alloc (Nat.le_refl _) _⟩
    · have t3 : ((r.S.length : Nat) : Int) ≤ i := by omega
      clear hi
      go_enter Tryz.func63, Tryz.ntmps63
      go_wp2_with (go_at_call 67; refine (slots_any H.out).mono ?_; rintro e w' ⟨rfl, rfl⟩)
      exact bodyPost_ret (results_cell_row (by rfl) _ _ w.heap.size 35 _ (0, 0) _ (by rfl) (heap_alloc_new w _) Tryz.underlying35 rfl (by kernel_rfl)) rfl ⟨rfl, (Below.refl _ _).alloc (Nat.le_refl _) _⟩

def BegOk (w : World) (l a g q : Nat) (t : Int) (x : Rg × Bool) (e : Ending) (w' : World) : Prop := e = .returned (.bool x.2) ∧ RgIs w' l a g q t x.1 ∧ Turns [q] w w'
theorem RgIs.spot {w w' : World} {l a g q : Nat} {t : Int} {r : Rg} (h : RgIs w l a g q t r) {S' : List Sp} (hs : SpIs w' q S') (hl : S'.length = r.S.length) (k : Turns [q] w w') : RgIs w' l a g q t ⟨r.ar, S'⟩ :=
  ⟨h.ar.turns k (by simpa using fun e => h.qa e.symm) (by simpa using fun e => h.qg e.symm), by
    have := k.blk h.lk (by simpa using h.lq)
    show Blk w' l _ #[.pointer (some ⟨a, 0, none⟩), .int .i64 t, .slice (some ⟨q, 0, none⟩) S'.length S'.length]
    rw [hl]; exact this, hs, h.la, h.lg, h.lq, h.qa, h.qg, by show S'.length ≤ 32; rw [hl]; exact h.len⟩
set_option maxHeartbeats 800000 in
theorem begin_any {w : World} {l a g q : Nat} {t : Int} {r : Rg} (h : RgIs w l a g q t r) (i from_ to_ : Int) :
    Calls Tryz.prog 133 #[.pointer (some ⟨l, 0, none⟩), .int .i64 i, .int .i64 from_, .int .i64 to_] w (BegOk w l a g q t (beginRg r i from_ to_)) := by
  have H := Lib.hid h
  have hlen := h.len
  by_cases hi : okI r.S i
  · have hp := getS_in hi
    obtain ⟨p, hpp⟩ : ∃ p, p = getS r.S i := ⟨_, rfl⟩
    rw [← hpp] at hp
    have c2 : w.cell? ⟨l, 2, none⟩ = some (.slice (some ⟨q, 0, none⟩) r.S.length r.S.length) := h.lk.cell 2
    have a0 := h.sp.cell hp 0 _ rfl
    have f0 := h.sp.free (i.toNat * 4)
    simp only [Nat.add_zero] at a0
    obtain ⟨h0, h1⟩ := id hi
    obtain ⟨n, rfl⟩ := Int.eq_ofNat_of_zero_le h0
    simp only [Int.toNat_natCast] at a0 f0 hp
    have t2 : ¬ (n : Int) < 0 := by omega
    have t3 : ¬ ((r.S.length : Nat) : Int) ≤ (n : Int) := by omega
    have t4 : n < r.S.length := by omega
    have HP := Lib.hid (And.intro hi (And.intro hpp hp))
    clear h hp hpp h0 h1 hi
    cases hc : (p.pc != from_)
    · have hb : Hid (beginRg r n from_ to_ = (⟨r.ar, r.S.set n { p with pc := to_ }⟩, true)) := Lib.hid (by
        unfold beginRg
        have e : p.pc = from_ := by simpa using hc
        rw [← HP.out.2.1, if_pos ⟨HP.out.1, e⟩]; simp)
      go_enter Tryz.func133, Tryz.ntmps133
      go_wp2_with (go_at_call 67; refine (slots_any H.out).mono ?_; rintro e w' ⟨rfl, rfl⟩)
      go_ret
      rw [hb.out]
      have ht : Turns [q] w (w.setCell ⟨q, n * 4, none⟩ (.int .i64 to_)) := (Turns.refl _ _).setCell (.inl (by simp)) _
      exact ⟨rfl, H.out.spot (H.out.sp.put HP.out.2.2 (j := 0) (by decide) rfl) (by simp) ht, ht⟩
    · have hb : Hid (beginRg r n from_ to_ = (r, false)) := Lib.hid (by
        unfold beginRg
        have e : ¬ p.pc = from_ := by simpa using hc
        rw [← HP.out.2.1, if_neg (fun h => e h.2)])
      go_enter Tryz.func133, Tryz.ntmps133
      go_wp2_with (go_at_call 67; refine (slots_any H.out).mono ?_; rintro e w' ⟨rfl, rfl⟩)
      go_ret
      rw [hb.out]
      exact ⟨rfl, H.out, Turns.refl _ _⟩
  · have hb : Hid (beginRg r i from_ to_ = (r, false)) := Lib.hid (by
      unfold beginRg
      rw [if_neg (fun h => hi h.1)])
    unfold okI at hi
    clear h
    by_cases h0 : i < 0
    · go_enter Tryz.func133, Tryz.ntmps133
      go_wp2
      go_ret
      rw [hb.out]
      exact ⟨rfl, H.out, Turns.refl _ _⟩
    · have t3 : ((r.S.length : Nat) : Int) ≤ i := by omega
      clear hi
      go_enter Tryz.func133, Tryz.ntmps133
      go_wp2_with (go_at_call 67; refine (slots_any H.out).mono ?_; rintro e w' ⟨rfl, rfl⟩)
      go_ret
      rw [hb.out]
      exact ⟨rfl, H.out, Turns.refl _ _⟩
theorem ask_any {w : World} {l a g q : Nat} {t : Int} {r : Rg} (h : RgIs w l a g q t r) (i : Int) :
    Calls Tryz.prog 109 #[.pointer (some ⟨l, 0, none⟩), .int .i64 i] w (BegOk w l a g q t (beginRg r i 0 1)) := by
  go_enter Tryz.func109, Tryz.ntmps109
  have H := Lib.hid h
  clear h
  go_wp2_with fail
  refine (begin_any H.out i 0 1).mono ?_
  rintro en w1 ⟨rfl, h1, t1⟩
  have H1 := Lib.hid (And.intro h1 t1)
  clear h1 t1
  obtain ⟨b, hb⟩ : ∃ b, b = (beginRg r i 0 1).2 := ⟨_, rfl⟩
  rw [← hb]
  have HB := Lib.hid hb
  clear hb
  go_wp2
  go_ret
  exact ⟨by rw [HB.out]; rfl, H1.out.1, H1.out.2⟩
theorem beginRg_in {r : Rg} {i f u : Int} (h : (beginRg r i f u).2 = true) : okI r.S i ∧ (getS r.S i).pc = f ∧ (beginRg r i f u).1 = ⟨r.ar, r.S.set i.toNat { getS r.S i with pc := u }⟩ := by
  unfold beginRg at *
  split at h
  · rename_i hc
    rw [if_pos hc]
    exact ⟨hc.1, hc.2, rfl⟩
  · cases h
theorem beginRg_out {r : Rg} {i f u : Int} (h : (beginRg r i f u).2 = false) : ¬ (okI r.S i ∧ (getS r.S i).pc = f) ∧ (beginRg r i f u).1 = r := by
  unfold beginRg at *
  split at h
  · cases h
  · rename_i hc
    rw [if_neg hc]
    exact ⟨hc, rfl⟩
set_option maxHeartbeats 800000 in
theorem with_any {w : World} {l a g q : Nat} {t : Int} {r : Rg} (h : RgIs w l a g q t r) (i to_ v : Int) :
    Calls Tryz.prog 136 #[.pointer (some ⟨l, 0, none⟩), .int .i64 i, .int .i64 to_, .int .i64 v] w (BegOk w l a g q t (withRg r i to_ v)) := by
  have H := Lib.hid h
  clear h
  go_enter Tryz.func136, Tryz.ntmps136
  go_wp2_with fail
  refine (begin_any H.out i 10 to_).mono ?_
  rintro en w1 ⟨rfl, h1, t1⟩
  cases hb : (beginRg r i 10 to_).2
  · obtain ⟨hc, he⟩ := beginRg_out hb
    rw [he] at h1
    have HW : Hid (withRg r i to_ v = (r, false)) := Lib.hid (by unfold withRg; rw [if_neg hc])
    have H1 := Lib.hid (And.intro h1 t1)
    clear h1 t1 hb hc he
    go_wp2
    go_ret
    rw [HW.out]
    exact ⟨rfl, H1.out.1, H1.out.2⟩
  · obtain ⟨hi, hc, he⟩ := beginRg_in hb
    rw [he] at h1
    have hp0 := getS_in hi
    have hlen := h1.len
    simp only [List.length_set] at hlen
    obtain ⟨h0, h9⟩ := id hi
    obtain ⟨n, rfl⟩ := Int.eq_ofNat_of_zero_le h0
    simp only [Int.toNat_natCast] at h1 hp0
    have hp : (r.S.set n { getS r.S n with pc := to_ })[n]? = some { getS r.S n with pc := to_ } := by
      have : n < r.S.length := by omega
      simp [this]
    have c2 : w1.cell? ⟨l, 2, none⟩ = some (.slice (some ⟨q, 0, none⟩) r.S.length r.S.length) := by
      have := h1.lk.cell 2
      simpa using this
    have a3 := h1.sp.cell hp 3 _ rfl
    have f3 := h1.sp.free (n * 4 + 3)
    have t4 : n < r.S.length := by omega
    have t5 : (n : Int) < r.S.length := by omega
    have HW : Hid (withRg r n to_ v = (⟨r.ar, r.S.set n { getS r.S n with pc := to_, c := v }⟩, true)) := Lib.hid (by unfold withRg; rw [if_pos ⟨hi, hc⟩]; simp)
    have H1 := Lib.hid (And.intro h1 (And.intro t1 hp))
    clear h1 t1 hb hc he hp hi hp0 h0 h9
    go_wp2
    go_ret
    rw [HW.out]
    have ht : Turns [q] w1 (w1.setCell ⟨q, n * 4 + 3, none⟩ (.int .i64 v)) := (Turns.refl _ _).setCell (.inl (by simp)) _
    refine ⟨rfl, ?_, H1.out.2.1.trans ht⟩
    have h2 := H1.out.1.spot (H1.out.1.sp.put H1.out.2.2 (j := 3) (u := .int .i64 v) (p' := { getS r.S n with pc := to_, c := v }) (by decide) rfl) (by simp) ht
    simpa using h2
theorem leave_any {w : World} {l a g q : Nat} {t : Int} {r : Rg} (h : RgIs w l a g q t r) (i v : Int) :
    Calls Tryz.prog 112 #[.pointer (some ⟨l, 0, none⟩), .int .i64 i, .int .i64 v] w (BegOk w l a g q t (withRg r i 11 v)) := by
  have H := Lib.hid h
  clear h
  go_enter Tryz.func112, Tryz.ntmps112
  go_wp2_with fail
  refine (with_any H.out i 11 v).mono ?_
  rintro en w1 ⟨rfl, h1, t1⟩
  have H1 := Lib.hid (And.intro h1 t1)
  clear h1 t1
  obtain ⟨b, hb⟩ : ∃ b, b = (withRg r i 11 v).2 := ⟨_, rfl⟩
  rw [← hb]
  have HB := Lib.hid hb
  clear hb
  go_wp2
  go_ret
  exact ⟨by rw [HB.out]; rfl, H1.out.1, H1.out.2⟩
theorem pass_any {w : World} {l a g q : Nat} {t : Int} {r : Rg} (h : RgIs w l a g q t r) (i v : Int) :
    Calls Tryz.prog 113 #[.pointer (some ⟨l, 0, none⟩), .int .i64 i, .int .i64 v] w (BegOk w l a g q t (withRg r i 15 v)) := by
  have H := Lib.hid h
  clear h
  go_enter Tryz.func113, Tryz.ntmps113
  go_wp2_with fail
  refine (with_any H.out i 15 v).mono ?_
  rintro en w1 ⟨rfl, h1, t1⟩
  have H1 := Lib.hid (And.intro h1 t1)
  clear h1 t1
  obtain ⟨b, hb⟩ : ∃ b, b = (withRg r i 15 v).2 := ⟨_, rfl⟩
  rw [← hb]
  have HB := Lib.hid hb
  clear hb
  go_wp2
  go_ret
  exact ⟨by rw [HB.out]; rfl, H1.out.1, H1.out.2⟩
theorem next_any {w : World} {l a g q : Nat} {t : Int} {r : Rg} (h : RgIs w l a g q t r) (x : Int) :
    Calls Tryz.prog 134 #[.pointer (some ⟨l, 0, none⟩), .int .i64 x] w fun e w' => e = .returned (.int .i64 (nxA t x)) ∧ w = w' := by
  have c1 : w.cell? ⟨l, 1, none⟩ = some (.int .i64 t) := h.lk.cell 1
  clear h
  go_enter Tryz.func134, Tryz.ntmps134
  go_wp2
  go_ret
  exact ⟨rfl, rfl⟩
theorem stat_any {w : World} {l a g q : Nat} {t : Int} {r : Rg} (h : RgIs w l a g q t r) (x : Int) :
    Calls Tryz.prog 135 #[.pointer (some ⟨l, 0, none⟩), .int .i64 x] w fun e w' => e = .returned (.int .i64 (stA t x)) ∧ w = w' := by
  have c1 : w.cell? ⟨l, 1, none⟩ = some (.int .i64 t) := h.lk.cell 1
  clear h
  go_enter Tryz.func135, Tryz.ntmps135
  go_wp2
  go_ret
  exact ⟨rfl, rfl⟩
end Go.Proofs.YtkdaiomjbkpedaaGreat
end
