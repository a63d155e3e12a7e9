/- Layer 1: what the arena's ops do. -/
import Derived.Test.YthgpjiebeinamaaAr1
import Derived.Laws.Externs
namespace Go.Proofs.Ythgpjiebeinamaa
open Go.RowKit

theorem run_call_swap {P : Program} {f : FuncId} {fn : Func} (hf : P.funcs[f]? = some fn) (hname : (fn.name == "runtime.NumGoroutine") = false) (hb : fn.body.isNone = true) (hn : Extern.findNext fn = none) (k : IntKind)
    (he : Extern.find fn = some (Extern.Atomic.swapT (.int k))) {a : Addr} {x y : Int} {w : World} (hc : w.cell? a = some (.int k x)) (hz : w.frozen? a = false) :
    (callFunc f #[.pointer (some a), .int k y]).run P w = .ok (.value (.int k x)) (w.setCell a (.int k y)) := by
  rw [run_callFunc_extern hf hname hb hn he]
  change (Sem.run P (do
    let a' ← asAddr (.pointer (some a))
    let old ← Extern.Atomic.read (.int k) a'
    store a' (.int k y) .atomic
    pure old) w).andThen _ = _
  simp [Extern.Atomic.read, asAddr, hc, hz, run_store P w a (.int k y) .atomic rfl, Result.andThen]

theorem aload (w : World) (p : Addr) (x : Int) (hc : w.cell? p = some (.int .i64 x)) (hp : p.spot = none) :
    Calls Try.prog 45 #[.pointer (some p)] w fun e w' => e = .returned (.int .i64 x) ∧ w = w' := by
  obtain ⟨b, o, sp⟩ := p
  obtain rfl : sp = none := hp
  have hl := run_call_load (P := Try.prog) Try.func71 (by kernel_rfl) (by kernel_rfl) (by kernel_rfl) .i64 (by kernel_rfl) hc
  clear hc
  go_enter Try.func45, Try.ntmps45
  go_wp2
  go_ret
  exact ⟨rfl, rfl⟩
theorem astore (w : World) (b o : Nat) (x y : Int) (hc : w.cell? ⟨b, o, none⟩ = some (.int .i64 x)) (hz : w.frozen? ⟨b, o, none⟩ = false) :
    Calls Try.prog 109 #[.pointer (some ⟨b, o, none⟩), .int .i64 y] w fun e w' => e = .returned (.tuple #[]) ∧ w' = w.setCell ⟨b, o, none⟩ (.int .i64 y) := by
  have hl := run_call_store (P := Try.prog) Try.func112 (by kernel_rfl) (by kernel_rfl) (by kernel_rfl) (by kernel_rfl) (k := .i64) (y := y) hc hz
  go_enter Try.func109, Try.ntmps109
  go_wp2
  go_end0
  exact ⟨rfl, rfl⟩
theorem aswap (w : World) (b o : Nat) (x y : Int) (hc : w.cell? ⟨b, o, none⟩ = some (.int .i64 x)) (hz : w.frozen? ⟨b, o, none⟩ = false) :
    Calls Try.prog 110 #[.pointer (some ⟨b, o, none⟩), .int .i64 y] w fun e w' => e = .returned (.int .i64 x) ∧ w' = w.setCell ⟨b, o, none⟩ (.int .i64 y) := by
  have hl := run_call_swap (P := Try.prog) Try.func113 (by kernel_rfl) (by kernel_rfl) (by kernel_rfl) .i64 (by kernel_rfl) (y := y) hc hz
  go_enter Try.func110, Try.ntmps110
  go_wp2
  go_ret
  exact ⟨rfl, rfl⟩
theorem acas_hit (w : World) (b o : Nat) (x y : Int) (hc : w.cell? ⟨b, o, none⟩ = some (.int .i64 x)) (hz : w.frozen? ⟨b, o, none⟩ = false) :
    Calls Try.prog 111 #[.pointer (some ⟨b, o, none⟩), .int .i64 x, .int .i64 y] w fun e w' => e = .returned (.bool true) ∧ w' = w.setCell ⟨b, o, none⟩ (.int .i64 y) := by
  have hl := run_call_cas_hit (P := Try.prog) Try.func114 (by kernel_rfl) (by kernel_rfl) (by kernel_rfl) .i64 (by kernel_rfl) (y := y) hc hz
  go_enter Try.func111, Try.ntmps111
  go_wp2
  go_ret
  exact ⟨rfl, rfl⟩
theorem acas_miss (w : World) (b o : Nat) (x old y : Int) (hc : w.cell? ⟨b, o, none⟩ = some (.int .i64 x)) (hz : w.frozen? ⟨b, o, none⟩ = false) (hne : ¬ x = old) :
    Calls Try.prog 111 #[.pointer (some ⟨b, o, none⟩), .int .i64 old, .int .i64 y] w fun e w' => e = .returned (.bool false) ∧ w = w' := by
  have hl := run_call_cas_miss (P := Try.prog) Try.func114 (by kernel_rfl) (by kernel_rfl) (by kernel_rfl) .i64 (by kernel_rfl) (o := old) (y := y) hc hz hne
  clear hne
  go_enter Try.func111, Try.ntmps111
  go_wp2
  go_ret
  exact ⟨rfl, rfl⟩

theorem ArIs.put {w : World} {a g : Nat} {s : Ar} (h : ArIs w a g s) {x : Int} (hx : inR s.W x = true) (v : Int) :
    ArIs (w.setCell ⟨g, x.toNat - 1, none⟩ (.int .i64 v)) a g (wrA s x v) ∧ Turns [a, g] w (w.setCell ⟨g, x.toNat - 1, none⟩ (.int .i64 v)) := by
  have h12 := inR_true.1 hx
  refine ⟨⟨?_, ?_, h.ne, ?_, h.room, h.ops⟩, (Turns.refl _ _).setCell (.inl (by simp)) _⟩
  · have := h.blk.far (p := ⟨g, x.toNat - 1, none⟩) h.ne (.int .i64 v)
    have e : arCells g (wrA s x v) = arCells g s := by unfold arCells wrA; rw [stW_len]
    rw [e]; exact this
  · have := h.wds.set_ (x.toNat - 1) (.int .i64 v)
    rw [wdL_set s (by omega)] at this
    have e : wrA s x v = { s with W := s.W.set (x.toNat - 1) v } := by unfold wrA stW; rw [if_pos hx]
    rw [e]; exact this
  · show (stW s.W x v).length ≤ _
    rw [stW_len]; exact h.le
theorem noteA_W (s : Ar) (k x : Int) (wr : Bool) : (noteA s k x wr).W = s.W := by unfold noteA; split <;> rfl
theorem noteA_out (s : Ar) (k x : Int) (wr : Bool) (h : inR s.W x = false) : noteA s k x wr = s := by unfold noteA; rw [h]; rfl
theorem wrA_out (s : Ar) (x v : Int) (h : inR s.W x = false) : wrA s x v = s := by unfold wrA stW; rw [h]; rfl
theorem ldW_in {W : List Int} {x : Int} (h : inR W x = true) : ldW W x = W.getD (x.toNat - 1) 0 := by unfold ldW; rw [if_pos h]
theorem ldW_out {W : List Int} {x : Int} (h : inR W x = false) : ldW W x = 0 := by unfold ldW; rw [h]; rfl
theorem turns_ag {a g : Nat} {w w' : World} (h : Turns [a] w w') : Turns [a, g] w w' := h.mono (by simp)
def OpOk (w : World) (a g : Nat) (s' : Ar) (r : Value) (e : Ending) (w' : World) : Prop := e = .returned r ∧ ArIs w' a g s' ∧ Turns [a, g] w w'

theorem load_any {w : World} {a g : Nat} {s : Ar} (h : ArIs w a g s) (x : Int) (ho : s.ops + 1 ≤ 1000000000000) :
    Calls Try.prog 99 #[.pointer (some ⟨a, 0, none⟩), .int .i64 x] w (OpOk w a g (loadA s x) (.int .i64 (ldW s.W x))) := by
  have H := Lib.hid h
  cases hx : inR s.W x
  · have e : OpOk w a g (loadA s x) (.int .i64 (ldW s.W x)) (.returned (.int .i64 0)) w := ⟨by rw [ldW_out hx], by unfold loadA; rw [noteA_out s _ _ _ hx]; exact h, Turns.refl _ _⟩
    have HX := Lib.hid hx
    clear h hx
    go_enter Try.func99, Try.ntmps99
    go_wp2_with fail
    refine (word_out H.out x HX.out).mono ?_
    rintro en w1 ⟨rfl, rfl⟩
    go_wp2
    go_ret
    exact e
  · have HX := Lib.hid hx
    have HE := Lib.hid (ldW_in hx)
    have h12 := inR_true.1 hx
    have hil : x.toNat - 1 < s.W.length := by omega
    clear h hx
    go_enter Try.func99, Try.ntmps99
    go_wp2_with fail
    refine (word_in H.out x HX.out).mono ?_
    rintro en w1 ⟨rfl, rfl⟩
    go_wp2_with fail
    refine (note_any H.out 1 x false HX.out ho).mono ?_
    rintro en w1 ⟨rfl, h1, t1⟩
    have hc := (h1.word (i := x.toNat - 1) (by rw [noteA_W]; exact hil)).1
    rw [noteA_W] at hc
    have H1 := Lib.hid (And.intro h1 t1)
    clear h1 t1
    go_wp2_with fail
    refine (aload _ _ _ hc rfl).mono ?_
    rintro en w2 ⟨rfl, rfl⟩
    clear hc
    rw [← HE.out]
    obtain ⟨r, hr⟩ : ∃ r, r = ldW s.W x := ⟨_, rfl⟩
    rw [← hr]
    have HR := Lib.hid hr
    clear hr
    go_wp2
    go_ret
    exact ⟨by rw [HR.out]; rfl, H1.out.1, turns_ag H1.out.2⟩
theorem store_any {w : World} {a g : Nat} {s : Ar} (h : ArIs w a g s) (x v : Int) (ho : s.ops + 1 ≤ 1000000000000) :
    Calls Try.prog 95 #[.pointer (some ⟨a, 0, none⟩), .int .i64 x, .int .i64 v] w (OpOk w a g (storeA s x v) (.tuple #[])) := by
  have H := Lib.hid h
  cases hx : inR s.W x
  · have e : OpOk w a g (storeA s x v) (.tuple #[]) (.returned (.tuple #[])) w := ⟨rfl, by unfold storeA; rw [noteA_out s _ _ _ hx, wrA_out s _ _ hx]; exact h, Turns.refl _ _⟩
    have HX := Lib.hid hx
    clear h hx
    go_enter Try.func95, Try.ntmps95
    go_wp2_with fail
    refine (word_out H.out x HX.out).mono ?_
    rintro en w1 ⟨rfl, rfl⟩
    go_wp2
    go_end0
    exact e
  · have HX := Lib.hid hx
    have h12 := inR_true.1 hx
    have hil : x.toNat - 1 < s.W.length := by omega
    clear h hx
    go_enter Try.func95, Try.ntmps95
    go_wp2_with fail
    refine (word_in H.out x HX.out).mono ?_
    rintro en w1 ⟨rfl, rfl⟩
    go_wp2_with fail
    refine (note_any H.out 2 x true HX.out ho).mono ?_
    rintro en w1 ⟨rfl, h1, t1⟩
    have hc := h1.word (i := x.toNat - 1) (by rw [noteA_W]; exact hil)
    have hp := h1.put (x := x) (by rw [noteA_W]; exact HX.out) v
    have H1 := Lib.hid (And.intro hp t1)
    have HC := Lib.hid hc
    clear h1 t1 hp hc
    go_wp2_with fail
    refine (astore _ _ _ _ _ HC.out.1 HC.out.2).mono ?_
    rintro en w2 ⟨rfl, rfl⟩
    go_wp2
    go_end0
    exact ⟨rfl, H1.out.1.1, (turns_ag H1.out.2).trans H1.out.1.2⟩
theorem swap_any {w : World} {a g : Nat} {s : Ar} (h : ArIs w a g s) (x v : Int) (ho : s.ops + 1 ≤ 1000000000000) :
    Calls Try.prog 98 #[.pointer (some ⟨a, 0, none⟩), .int .i64 x, .int .i64 v] w (OpOk w a g (swapA s x v) (.int .i64 (ldW s.W x))) := by
  have H := Lib.hid h
  cases hx : inR s.W x
  · have e : OpOk w a g (swapA s x v) (.int .i64 (ldW s.W x)) (.returned (.int .i64 0)) w := ⟨by rw [ldW_out hx], by unfold swapA; rw [noteA_out s _ _ _ hx, wrA_out s _ _ hx]; exact h, Turns.refl _ _⟩
    have HX := Lib.hid hx
    clear h hx
    go_enter Try.func98, Try.ntmps98
    go_wp2_with fail
    refine (word_out H.out x HX.out).mono ?_
    rintro en w1 ⟨rfl, rfl⟩
    go_wp2
    go_ret
    exact e
  · have HX := Lib.hid hx
    have HE := Lib.hid (ldW_in hx)
    have h12 := inR_true.1 hx
    have hil : x.toNat - 1 < s.W.length := by omega
    clear h hx
    go_enter Try.func98, Try.ntmps98
    go_wp2_with fail
    refine (word_in H.out x HX.out).mono ?_
    rintro en w1 ⟨rfl, rfl⟩
    go_wp2_with fail
    refine (note_any H.out 3 x true HX.out ho).mono ?_
    rintro en w1 ⟨rfl, h1, t1⟩
    have hc := h1.word (i := x.toNat - 1) (by rw [noteA_W]; exact hil)
    rw [noteA_W] at hc
    have hp := h1.put (x := x) (by rw [noteA_W]; exact HX.out) v
    have H1 := Lib.hid (And.intro hp t1)
    have HC := Lib.hid hc
    clear h1 t1 hp hc
    go_wp2_with fail
    refine (aswap _ _ _ _ _ HC.out.1 HC.out.2).mono ?_
    rintro en w2 ⟨rfl, rfl⟩
    rw [← HE.out]
    obtain ⟨r, hr⟩ : ∃ r, r = ldW s.W x := ⟨_, rfl⟩
    rw [← hr]
    have HR := Lib.hid hr
    clear hr
    go_wp2
    go_ret
    exact ⟨by rw [HR.out]; rfl, H1.out.1.1, (turns_ag H1.out.2).trans H1.out.1.2⟩
theorem cas_any {w : World} {a g : Nat} {s : Ar} (h : ArIs w a g s) (x old v : Int) (ho : s.ops + 1 ≤ 1000000000000) :
    Calls Try.prog 100 #[.pointer (some ⟨a, 0, none⟩), .int .i64 x, .int .i64 old, .int .i64 v] w (OpOk w a g (casA s x old v) (.bool (casB s x old))) := by
  have H := Lib.hid h
  cases hx : inR s.W x
  · have e : OpOk w a g (casA s x old v) (.bool (casB s x old)) (.returned (.bool false)) w := ⟨by unfold casB; rw [hx]; rfl, by
      have hb : casB s x old = false := by unfold casB; rw [hx]; rfl
      unfold casA; rw [hb, noteA_out s 4 x false hx]; exact h, Turns.refl _ _⟩
    have HX := Lib.hid hx
    clear h hx
    go_enter Try.func100, Try.ntmps100
    go_wp2_with fail
    refine (word_out H.out x HX.out).mono ?_
    rintro en w1 ⟨rfl, rfl⟩
    go_wp2
    go_ret
    exact e
  · have HX := Lib.hid hx
    have h12 := inR_true.1 hx
    have hil : x.toNat - 1 < s.W.length := by omega
    have hc := h.word (i := x.toNat - 1) hil
    rw [← ldW_in hx] at hc
    by_cases heq : ldW s.W x = old
    · have hb : casB s x old = true := by unfold casB; rw [hx, heq]; simp
      have hp := h.put hx v
      have HP := Lib.hid (And.intro hp hb)
      rw [heq] at hc
      have HC := Lib.hid hc
      clear h hx hc hp heq hb
      go_enter Try.func100, Try.ntmps100
      go_wp2_with fail
      refine (word_in H.out x HX.out).mono ?_
      rintro en w1 ⟨rfl, rfl⟩
      go_wp2_with fail
      refine (acas_hit _ _ _ _ _ HC.out.1 HC.out.2).mono ?_
      rintro en w2 ⟨rfl, rfl⟩
      have h2 := HP.out.1.1
      have t2 := HP.out.1.2
      generalize (w.setCell ⟨g, x.toNat - 1, none⟩ (.int .i64 v)) = w2 at h2 t2 ⊢
      have H2 := Lib.hid (And.intro h2 t2)
      clear h2 t2
      go_wp2_with fail
      refine (note_any H2.out.1 4 x true (by unfold inR wrA; rw [stW_len]; exact HX.out) ho).mono ?_
      rintro en w3 ⟨rfl, h3, t3⟩
      have H3 := Lib.hid (And.intro h3 t3)
      clear h3 t3
      go_wp2
      go_ret
      refine ⟨by rw [HP.out.2]; rfl, ?_, H2.out.2.trans (turns_ag H3.out.2)⟩
      have e : casA s x old v = noteA (wrA s x v) 4 x true := by
        unfold casA; rw [HP.out.2, if_pos rfl]
        unfold noteA
        rw [if_pos HX.out, if_pos (by unfold inR wrA; rw [stW_len]; exact HX.out)]
        rfl
      rw [e]; exact H3.out.1
    · have hb : casB s x old = false := by unfold casB; rw [hx]; simpa using heq
      have HC := Lib.hid (And.intro hc (And.intro heq hb))
      clear h hx hc heq hb
      go_enter Try.func100, Try.ntmps100
      go_wp2_with fail
      refine (word_in H.out x HX.out).mono ?_
      rintro en w1 ⟨rfl, rfl⟩
      go_wp2_with fail
      refine (acas_miss _ _ _ _ _ _ HC.out.1.1 HC.out.1.2 HC.out.2.1).mono ?_
      rintro en w2 ⟨rfl, rfl⟩
      go_wp2_with fail
      refine (note_any H.out 4 x false HX.out ho).mono ?_
      rintro en w3 ⟨rfl, h3, t3⟩
      have H3 := Lib.hid (And.intro h3 t3)
      clear h3 t3
      go_wp2
      go_ret
      refine ⟨by rw [HC.out.2.2]; rfl, ?_, turns_ag H3.out.2⟩
      unfold casA
      rw [HC.out.2.2]
      exact H3.out.1
end Go.Proofs.Ythgpjiebeinamaa
