/- Joined: Ar2, Ar2S, Ar2C, Ar3, Ar4, SpI, FlM. -/
import Derived.Laws.Externs
import Derived.Deep.QuietTactic
import Derived.BigQuiet
import Derived.Test.YtmlcfmickonfbaaGreatRows
import Derived.RegionCalls
import Derived.Test.YtmlcfmickonfbaaGreatMgReadersAll1
section
set_option linter.unusedVariables false
set_option linter.unusedSimpArgs false
/- Layer 1: what the arena's ops do. -/
namespace Go.Proofs.YtmlcfmickonfbaaGreat
open Go.RowKit

theorem run_call_swap {P : Program} {f : FuncId} {fn : Func} (hf : P.funcs[f]? = some fn) (hname : (fn.name == "runtime.NumGoroutine") = false) (hb : fn.body.isNone = true) (hn : Extern.findNext fn = none) (k : IntKind)
    (he : Extern.find fn = some (Extern.Atomic.swapT (.int k))) {a : Addr} {x y : Int} {w : World} (hc : w.cell? a = some (.int k x)) (hz : w.frozen? a = false) :
    (callFunc f #[.pointer (some a), .int k y]).run P w = .ok (.value (.int k x)) (w.setCell a (.int k y)) := by
  rw [run_callFunc_extern hf hname hb hn he]
  change (Sem.run P (do
    let a' ← asAddr (.pointer (some a))
    let old ← Extern.Atomic.read (.int k) a'
    store a' (.int k y) .atomic
    pure old) w).andThen _ = _
  simp [Extern.Atomic.read, asAddr, hc, hz, run_store P w a (.int k y) .atomic rfl, Result.andThen]

theorem aload (w : World) (p : Addr) (x : Int) (hc : w.cell? p = some (.int .i64 x)) (hp : p.spot = none) :
    Calls Tryz.prog 55 #[.pointer (some p)] w fun e w' => e = .returned (.int .i64 x) ∧ w = w' := by
  obtain ⟨b, o, sp⟩ := p
  obtain rfl : sp = none := hp
  have hl := run_call_load (P := Tryz.prog) Tryz.func82 (by kernel_rfl) (by kernel_rfl) (by kernel_rfl) .i64 (by kernel_rfl) hc
  clear hc
  go_enter Tryz.func55, Tryz.ntmps55
  go_wp2
  go_ret
  exact ⟨rfl, rfl⟩
theorem aswap (w : World) (b o : Nat) (x y : Int) (hc : w.cell? ⟨b, o, none⟩ = some (.int .i64 x)) (hz : w.frozen? ⟨b, o, none⟩ = false) :
    Calls Tryz.prog 192 #[.pointer (some ⟨b, o, none⟩), .int .i64 y] w fun e w' => e = .returned (.int .i64 x) ∧ w' = w.setCell ⟨b, o, none⟩ (.int .i64 y) := by
  have hl := run_call_swap (P := Tryz.prog) Tryz.func193 (by kernel_rfl) (by kernel_rfl) (by kernel_rfl) .i64 (by kernel_rfl) (y := y) hc hz
  go_enter Tryz.func192, Tryz.ntmps192
  go_wp2
  go_ret
  exact ⟨rfl, rfl⟩
theorem ArIs.put {w : World} {a g : Nat} {s : Ar} (h : ArIs w a g s) {x : Int} (hx : inR s.W x = true) (v : Int) :
    ArIs (w.setCell ⟨g, x.toNat - 1, none⟩ (.int .i64 v)) a g (wrA s x v) ∧ Turns [a, g] w (w.setCell ⟨g, x.toNat - 1, none⟩ (.int .i64 v)) := by
  have h12 := inR_true.1 hx
  refine ⟨⟨?_, ?_, h.ne, ?_, h.room, h.ops⟩, (Turns.refl _ _).setCell (.inl (by simp)) _⟩
  · have := h.blk.far (p := ⟨g, x.toNat - 1, none⟩) h.ne (.int .i64 v)
    have e : arCells g (wrA s x v) = arCells g s := by unfold arCells wrA; rw [stW_len]
    rw [e]; exact this
  · have := h.wds.set_ (x.toNat - 1) (.int .i64 v)
    rw [wdL_set s (by omega)] at this
    have e : wrA s x v = { s with W := s.W.set (x.toNat - 1) v } := by unfold wrA stW; rw [if_pos hx]
    rw [e]; exact this
  · show (stW s.W x v).length ≤ _
    rw [stW_len]; exact h.le
theorem turns_ag {a g : Nat} {w w' : World} (h : Turns [a] w w') : Turns [a, g] w w' := h.mono (by simp)
def OpDone (w : World) (a g : Nat) (s' : Ar) (r : Value) (e : Ending) (w' : World) : Prop := e = .returned r ∧ ArIs w' a g s' ∧ Turns [a, g] w w'

theorem load_any {w : World} {a g : Nat} {s : Ar} (h : ArIs w a g s) (x : Int) (ho : s.ops + 1 ≤ 1000000000000) :
    Calls Tryz.prog 34 #[.pointer (some ⟨a, 0, none⟩), .int .i64 x] w (OpDone w a g (loadA s x) (.int .i64 (ldW s.W x))) := by
  have H := Lib.hid h
  cases hx : inR s.W x
  · have e : OpDone w a g (loadA s x) (.int .i64 (ldW s.W x)) (.returned (.int .i64 0)) w := ⟨by rw [ldW_out hx], by unfold loadA; rw [noteA_out s _ _ _ hx]; exact h, Turns.refl _ _⟩
    have HX := Lib.hid hx
    clear h hx
    go_enter Tryz.func34, Tryz.ntmps34
    go_wp2_with fail
    refine (word_out H.out x HX.out).mono ?_
    rintro en w1 ⟨rfl, rfl⟩
    go_wp2
    go_ret
    exact e
  · have HX := Lib.hid hx
    have HE := Lib.hid (ldW_in hx)
    have h12 := inR_true.1 hx
    have hil : x.toNat - 1 < s.W.length := by omega
    clear h hx
    go_enter Tryz.func34, Tryz.ntmps34
    go_wp2_with fail
    refine (word_in H.out x HX.out).mono ?_
    rintro en w1 ⟨rfl, rfl⟩
    go_wp2_with fail
    refine (note_any H.out 1 x false HX.out ho).mono ?_
    rintro en w1 ⟨rfl, h1, t1⟩
    have hc := (h1.word (i := x.toNat - 1) (by rw [noteA_W]; exact hil)).1
    rw [noteA_W] at hc
    have H1 := Lib.hid (And.intro h1 t1)
    clear h1 t1
    go_wp2_with fail
    refine (aload _ _ _ hc rfl).mono ?_
    rintro en w2 ⟨rfl, rfl⟩
    clear hc
    rw [← HE.out]
    obtain ⟨r, hr⟩ : ∃ r, r = ldW s.W x := ⟨_, rfl⟩
    rw [← hr]
    have HR := Lib.hid hr
    clear hr
    go_wp2
    go_ret
    exact ⟨by rw [HR.out]; rfl, H1.out.1, turns_ag H1.out.2⟩
theorem swap_any {w : World} {a g : Nat} {s : Ar} (h : ArIs w a g s) (x v : Int) (ho : s.ops + 1 ≤ 1000000000000) :
    Calls Tryz.prog 191 #[.pointer (some ⟨a, 0, none⟩), .int .i64 x, .int .i64 v] w (OpDone w a g (swapA s x v) (.int .i64 (ldW s.W x))) := by
  have H := Lib.hid h
  cases hx : inR s.W x
  · have e : OpDone w a g (swapA s x v) (.int .i64 (ldW s.W x)) (.returned (.int .i64 0)) w := ⟨by rw [ldW_out hx], by unfold swapA; rw [noteA_out s _ _ _ hx, wrA_out s _ _ hx]; exact h, Turns.refl _ _⟩
    have HX := Lib.hid hx
    clear h hx
    go_enter Tryz.func191, Tryz.ntmps191
    go_wp2_with fail
    refine (word_out H.out x HX.out).mono ?_
    rintro en w1 ⟨rfl, rfl⟩
    go_wp2
    go_ret
    exact e
  · have HX := Lib.hid hx
    have HE := Lib.hid (ldW_in hx)
    have h12 := inR_true.1 hx
    have hil : x.toNat - 1 < s.W.length := by omega
    clear h hx
    go_enter Tryz.func191, Tryz.ntmps191
    go_wp2_with fail
    refine (word_in H.out x HX.out).mono ?_
    rintro en w1 ⟨rfl, rfl⟩
    go_wp2_with fail
    refine (note_any H.out 3 x true HX.out ho).mono ?_
    rintro en w1 ⟨rfl, h1, t1⟩
    have hc := h1.word (i := x.toNat - 1) (by rw [noteA_W]; exact hil)
    rw [noteA_W] at hc
    have hp := h1.put (x := x) (by rw [noteA_W]; exact HX.out) v
    have H1 := Lib.hid (And.intro hp t1)
    have HC := Lib.hid hc
    clear h1 t1 hp hc
    go_wp2_with fail
    refine (aswap _ _ _ _ _ HC.out.1 HC.out.2).mono ?_
    rintro en w2 ⟨rfl, rfl⟩
    rw [← HE.out]
    obtain ⟨r, hr⟩ : ∃ r, r = ldW s.W x := ⟨_, rfl⟩
    rw [← hr]
    have HR := Lib.hid hr
    clear hr
    go_wp2
    go_ret
    exact ⟨by rw [HR.out]; rfl, H1.out.1.1, (turns_ag H1.out.2).trans H1.out.1.2⟩
end Go.Proofs.YtmlcfmickonfbaaGreat
end
section
set_option linter.unusedVariables false
set_option linter.unusedSimpArgs false
/- Layer 1: what Store does. -/
namespace Go.Proofs.YtmlcfmickonfbaaGreat
open Go.RowKit

theorem astore (w : World) (b o : Nat) (x y : Int) (hc : w.cell? ⟨b, o, none⟩ = some (.int .i64 x)) (hz : w.frozen? ⟨b, o, none⟩ = false) :
    Calls Tryz.prog 61 #[.pointer (some ⟨b, o, none⟩), .int .i64 y] w fun e w' => e = .returned (.tuple #[]) ∧ w' = w.setCell ⟨b, o, none⟩ (.int .i64 y) := by
  have hl := run_call_store (P := Tryz.prog) Tryz.func91 (by kernel_rfl) (by kernel_rfl) (by kernel_rfl) (by kernel_rfl) (k := .i64) (y := y) hc hz
  go_enter Tryz.func61, Tryz.ntmps61
  go_wp2
  go_end0
  exact ⟨rfl, rfl⟩
theorem store_any {w : World} {a g : Nat} {s : Ar} (h : ArIs w a g s) (x v : Int) (ho : s.ops + 1 ≤ 1000000000000) :
    Calls Tryz.prog 39 #[.pointer (some ⟨a, 0, none⟩), .int .i64 x, .int .i64 v] w (OpDone w a g (storeA s x v) (.tuple #[])) := by
  have H := Lib.hid h
  cases hx : inR s.W x
  · have e : OpDone w a g (storeA s x v) (.tuple #[]) (.returned (.tuple #[])) w := ⟨rfl, by unfold storeA; rw [noteA_out s _ _ _ hx, wrA_out s _ _ hx]; exact h, Turns.refl _ _⟩
    have HX := Lib.hid hx
    clear h hx
    go_enter Tryz.func39, Tryz.ntmps39
    go_wp2_with fail
    refine (word_out H.out x HX.out).mono ?_
    rintro en w1 ⟨rfl, rfl⟩
    go_wp2
    go_end0
    exact e
  · have HX := Lib.hid hx
    have h12 := inR_true.1 hx
    have hil : x.toNat - 1 < s.W.length := by omega
    clear h hx
    go_enter Tryz.func39, Tryz.ntmps39
    go_wp2_with fail
    refine (word_in H.out x HX.out).mono ?_
    rintro en w1 ⟨rfl, rfl⟩
    go_wp2_with fail
    refine (note_any H.out 2 x true HX.out ho).mono ?_
    rintro en w1 ⟨rfl, h1, t1⟩
    have hc := h1.word (i := x.toNat - 1) (by rw [noteA_W]; exact hil)
    have hp := h1.put (x := x) (by rw [noteA_W]; exact HX.out) v
    have H1 := Lib.hid (And.intro hp t1)
    have HC := Lib.hid hc
    clear h1 t1 hp hc
    go_wp2_with fail
    refine (astore _ _ _ _ _ HC.out.1 HC.out.2).mono ?_
    rintro en w2 ⟨rfl, rfl⟩
    go_wp2
    go_end0
    exact ⟨rfl, H1.out.1.1, (turns_ag H1.out.2).trans H1.out.1.2⟩
end Go.Proofs.YtmlcfmickonfbaaGreat
end
section
set_option linter.unusedVariables false
set_option linter.unusedSimpArgs false
/- Layer 1: what Cas does. -/
namespace Go.Proofs.YtmlcfmickonfbaaGreat
open Go.RowKit

theorem acas_hit (w : World) (b o : Nat) (x y : Int) (hc : w.cell? ⟨b, o, none⟩ = some (.int .i64 x)) (hz : w.frozen? ⟨b, o, none⟩ = false) :
    Calls Tryz.prog 153 #[.pointer (some ⟨b, o, none⟩), .int .i64 x, .int .i64 y] w fun e w' => e = .returned (.bool true) ∧ w' = w.setCell ⟨b, o, none⟩ (.int .i64 y) := by
  have hl := run_call_cas_hit (P := Tryz.prog) Tryz.func154 (by kernel_rfl) (by kernel_rfl) (by kernel_rfl) .i64 (by kernel_rfl) (y := y) hc hz
  go_enter Tryz.func153, Tryz.ntmps153
  go_wp2
  go_ret
  exact ⟨rfl, rfl⟩
theorem acas_miss (w : World) (b o : Nat) (x old y : Int) (hc : w.cell? ⟨b, o, none⟩ = some (.int .i64 x)) (hz : w.frozen? ⟨b, o, none⟩ = false) (hne : ¬ x = old) :
    Calls Tryz.prog 153 #[.pointer (some ⟨b, o, none⟩), .int .i64 old, .int .i64 y] w fun e w' => e = .returned (.bool false) ∧ w = w' := by
  have hl := run_call_cas_miss (P := Tryz.prog) Tryz.func154 (by kernel_rfl) (by kernel_rfl) (by kernel_rfl) .i64 (by kernel_rfl) (o := old) (y := y) hc hz hne
  clear hne
  go_enter Tryz.func153, Tryz.ntmps153
  go_wp2
  go_ret
  exact ⟨rfl, rfl⟩

theorem cas_any {w : World} {a g : Nat} {s : Ar} (h : ArIs w a g s) (x old v : Int) (ho : s.ops + 1 ≤ 1000000000000) :
    Calls Tryz.prog 152 #[.pointer (some ⟨a, 0, none⟩), .int .i64 x, .int .i64 old, .int .i64 v] w (OpDone w a g (casA s x old v) (.bool (casB s x old))) := by
  have H := Lib.hid h
  cases hx : inR s.W x
  · have e : OpDone w a g (casA s x old v) (.bool (casB s x old)) (.returned (.bool false)) w := ⟨by unfold casB; rw [hx]; rfl, by
      have hb : casB s x old = false := by unfold casB; rw [hx]; rfl
      unfold casA; rw [hb, noteA_out s 4 x false hx]; exact h, Turns.refl _ _⟩
    have HX := Lib.hid hx
    clear h hx
    go_enter Tryz.func152, Tryz.ntmps152
    go_wp2_with fail
    refine (word_out H.out x HX.out).mono ?_
    rintro en w1 ⟨rfl, rfl⟩
    go_wp2
    go_ret
    exact e
  · have HX := Lib.hid hx
    have h12 := inR_true.1 hx
    have hil : x.toNat - 1 < s.W.length := by omega
    have hc := h.word (i := x.toNat - 1) hil
    rw [← ldW_in hx] at hc
    by_cases heq : ldW s.W x = old
    · have hb : casB s x old = true := by unfold casB; rw [hx, heq]; simp
      have hp := h.put hx v
      have HP := Lib.hid (And.intro hp hb)
      rw [heq] at hc
      have HC := Lib.hid hc
      clear h hx hc hp heq hb
      go_enter Tryz.func152, Tryz.ntmps152
      go_wp2_with fail
      refine (word_in H.out x HX.out).mono ?_
      rintro en w1 ⟨rfl, rfl⟩
      go_wp2_with fail
      refine (acas_hit _ _ _ _ _ HC.out.1 HC.out.2).mono ?_
      rintro en w2 ⟨rfl, rfl⟩
      have h2 := HP.out.1.1
      have t2 := HP.out.1.2
      generalize (w.setCell ⟨g, x.toNat - 1, none⟩ (.int .i64 v)) = w2 at h2 t2 ⊢
      have H2 := Lib.hid (And.intro h2 t2)
      clear h2 t2
      go_wp2_with fail
      refine (note_any H2.out.1 4 x true (by unfold inR wrA; rw [stW_len]; exact HX.out) ho).mono ?_
      rintro en w3 ⟨rfl, h3, t3⟩
      have H3 := Lib.hid (And.intro h3 t3)
      clear h3 t3
      go_wp2
      go_ret
      refine ⟨by rw [HP.out.2]; rfl, ?_, H2.out.2.trans (turns_ag H3.out.2)⟩
      have e : casA s x old v = noteA (wrA s x v) 4 x true := by
        unfold casA; rw [HP.out.2, if_pos rfl]
        unfold noteA
        rw [if_pos HX.out, if_pos (by unfold inR wrA; rw [stW_len]; exact HX.out)]
        rfl
      rw [e]; exact H3.out.1
    · have hb : casB s x old = false := by unfold casB; rw [hx]; simpa using heq
      have HC := Lib.hid (And.intro hc (And.intro heq hb))
      clear h hx hc heq hb
      go_enter Tryz.func152, Tryz.ntmps152
      go_wp2_with fail
      refine (word_in H.out x HX.out).mono ?_
      rintro en w1 ⟨rfl, rfl⟩
      go_wp2_with fail
      refine (acas_miss _ _ _ _ _ _ HC.out.1.1 HC.out.1.2 HC.out.2.1).mono ?_
      rintro en w2 ⟨rfl, rfl⟩
      go_wp2_with fail
      refine (note_any H.out 4 x false HX.out ho).mono ?_
      rintro en w3 ⟨rfl, h3, t3⟩
      have H3 := Lib.hid (And.intro h3 t3)
      clear h3 t3
      go_wp2
      go_ret
      refine ⟨by rw [HC.out.2.2]; rfl, ?_, turns_ag H3.out.2⟩
      unfold casA
      rw [HC.out.2.2]
      exact H3.out.1
end Go.Proofs.YtmlcfmickonfbaaGreat
end
section
set_option linter.unusedVariables false
set_option linter.unusedSimpArgs false
/- Layer 1: a new arena, and taking words. -/
namespace Go.Proofs.YtmlcfmickonfbaaGreat
open Go.RowKit

theorem Tryz.infoAt : (Tryz.prog.info? 142).map (fun i => (i.zero, i.size, i.bytes)) = some (some (.agg #[.int .i64 0]), 1, 8) := by kernel_rfl
theorem made_const1 (u : Value) (n : Nat) : (madeCells #[u] n).toList = List.replicate n u := by
  unfold madeCells
  rw [Array.toList_map, Array.toList_range]
  refine List.ext_getElem? fun i => ?_
  rw [List.getElem?_map, List.getElem?_replicate]
  by_cases h : i < n
  · rw [List.getElem?_range h, if_pos h]; simp [Nat.mod_one]
  · rw [if_neg h]; simp; omega
theorem own_blk {w : World} {base : Nat} {e : TypeId} {sz g n : Nat} {xs : List Value} (h : w.ownsRow base e sz (.slice (some ⟨g, 0, none⟩) n n) n xs) : Blk w g e xs.toArray := by
  rcases h.2 with ⟨h', _⟩ | ⟨g', cap', cur, h', hb, hg, hnc, hcm, hcs, ht⟩
  · simp at h'
  · simp only [Value.slice.injEq, Option.some.injEq, Addr.mk.injEq, and_true, true_and] at h'
    obtain ⟨rfl, rfl⟩ := h'
    have e1 : cur = xs.toArray := by
      rw [← ht]
      apply Array.ext'
      rw [List.take_of_length_le (by rw [Array.length_toList, hcs]; exact Nat.le_refl _)]
    unfold Blk
    rw [hg, e1]
def clampA (room : Int) : Nat := if room < 0 then 0 else if 4096 < room then 4096 else room.toNat
def newAr (room : Int) : Ar := ⟨[], clampA room, 0, 0, 0, false⟩
def NewA (w : World) (room : Int) (e : Ending) (w' : World) : Prop := ∃ a g, e = .returned (.pointer (some ⟨a, 0, none⟩)) ∧ ArIs w' a g (newAr room) ∧ w.heap.size ≤ a ∧ w.heap.size ≤ g ∧ Below w.heap.size w w'
set_option maxRecDepth 100000 in
set_option maxHeartbeats 1000000 in
theorem newA_any (w : World) (room : Int) : Calls Tryz.prog 11 #[.int .i64 room] w (NewA w room) := by
  obtain ⟨i0, hi, hz0, hz1, hz2⟩ := info_parts Tryz.infoAt
  obtain ⟨n, hn⟩ : ∃ n, n = clampA room := ⟨_, rfl⟩
  have hc : n ≤ 4096 := by rw [hn]; unfold clampA; split <;> (try split) <;> omega
  have HN := Lib.hid hn
  have key : ∀ (w1 : World), w1.ownsRow w.heap.size 142 1 (.slice (some ⟨w.heap.size, 0, none⟩) n n) n (madeCells #[.int .i64 0] n).toList → w.grownBy w1 none →
      ArIs (w1.alloc (.cells #[.slice (some ⟨w.heap.size, 0, none⟩) n n, .int .i64 0, .int .i64 0, .int .i64 0, .int .i64 0, .bool false] 64)) w1.heap.size w.heap.size (newAr room) ∧ w.heap.size ≤ w1.heap.size ∧ Below w.heap.size w (w1.alloc (.cells #[.slice (some ⟨w.heap.size, 0, none⟩) n n, .int .i64 0, .int .i64 0, .int .i64 0, .int .i64 0, .bool false] 64)) := by
    intro w1 hown hg
    rw [made_const1] at hown
    have hb := own_blk hown
    have hlt := hb.lt
    refine ⟨⟨?_, ?_, by omega, by simp [newAr], by simp [newAr]; omega, by simp [newAr]⟩, by omega, ((Below.refl w.heap.size w).grown hg (Nat.le_refl _) (fun j hj => by cases hj)).alloc (by omega) _⟩
    · have := Blk.new w1 64 (arCells w.heap.size (newAr room))
      unfold arCells newAr at this ⊢
      rw [← HN.out] at this ⊢
      simpa using this
    · have e : (wdL (newAr room)).toArray = (List.replicate n (Value.int .i64 0)).toArray := by unfold wdL newAr; simp [← HN.out]
      rw [e]
      exact hb.alloc _
  have KEY := Lib.hid key
  clear key
  rcases (show 4096 < room ∨ (room ≤ 4096 ∧ 0 < room) ∨ room ≤ 0 by omega) with h | ⟨h, h'⟩ | h
  · have E : Hid ((4096 : Int) = (n : Int)) := Lib.hid (by rw [hn]; unfold clampA; rw [if_neg (by omega), if_pos h]; rfl)
    clear hn
    go_enter Tryz.func11, Tryz.ntmps11
    go_wp2_with (refine wpList_make_full _ rfl (.tmp 5) (.tmp 5) 60 rfl w.heap.size 142 i0 (.agg #[.int .i64 0]) 1 Tryz.underlying60 hi hz0 hz1 .i64 .i64 4096 4096 n rfl rfl E.out E.out ?b2 ?b3 (Nat.le_refl _) ?_)
    case b2 => rw [hz2]; omega
    case b3 => unfold maxLen; omega
    intro w1 hown hg
    obtain ⟨k1, k2, k3⟩ := KEY.out w1 hown hg
    clear hown hg
    go_wp2
    go_ret
    exact ⟨_, _, rfl, k1, k2, Nat.le_refl _, k3⟩
  · have E : Hid (room = (n : Int)) := Lib.hid (by rw [hn]; unfold clampA; rw [if_neg (by omega), if_neg (by omega)]; omega)
    clear hn
    go_enter Tryz.func11, Tryz.ntmps11
    go_wp2_with (refine wpList_make_full _ rfl (.tmp 5) (.tmp 5) 60 rfl w.heap.size 142 i0 (.agg #[.int .i64 0]) 1 Tryz.underlying60 hi hz0 hz1 .i64 .i64 room room n rfl rfl E.out E.out ?b2 ?b3 (Nat.le_refl _) ?_)
    case b2 => rw [hz2]; omega
    case b3 => unfold maxLen; omega
    intro w1 hown hg
    obtain ⟨k1, k2, k3⟩ := KEY.out w1 hown hg
    clear hown hg
    go_wp2
    go_ret
    exact ⟨_, _, rfl, k1, k2, Nat.le_refl _, k3⟩
  · have E : Hid ((0 : Int) = (n : Int)) := Lib.hid (by rw [hn]; unfold clampA; split <;> (try split) <;> omega)
    have h4 : room ≤ 4096 := by omega
    clear hn
    go_enter Tryz.func11, Tryz.ntmps11
    go_wp2_with (refine wpList_make_full _ rfl (.tmp 5) (.tmp 5) 60 rfl w.heap.size 142 i0 (.agg #[.int .i64 0]) 1 Tryz.underlying60 hi hz0 hz1 .i64 .i64 0 0 n rfl rfl E.out E.out ?b2 ?b3 (Nat.le_refl _) ?_)
    case b2 => rw [hz2]; omega
    case b3 => unfold maxLen; omega
    intro w1 hown hg
    obtain ⟨k1, k2, k3⟩ := KEY.out w1 hown hg
    clear hown hg
    go_wp2
    go_ret
    exact ⟨_, _, rfl, k1, k2, Nat.le_refl _, k3⟩

def takeA (s : Ar) (n : Int) : Ar × Int × Int :=
  if n < 0 then (s, (0 : Int), (1 : Int)) else if (s.room : Int) - s.W.length < n then (s, (0 : Int), (3 : Int)) else ({ s with W := s.W ++ List.replicate n.toNat 0 }, (s.W.length : Int) + 1, (0 : Int))
def TakeOk (w : World) (a g : Nat) (x : Ar × Int × Int) (e : Ending) (w' : World) : Prop := e = .returned (.tuple #[.int .i64 x.2.1, .int .i64 x.2.2]) ∧ ArIs w' a g x.1 ∧ Turns [a] w w'
set_option maxRecDepth 100000 in
set_option maxHeartbeats 1000000 in
theorem take_any {w : World} {a g : Nat} {s : Ar} (h : ArIs w a g s) (n : Int) :
    Calls Tryz.prog 26 #[.pointer (some ⟨a, 0, none⟩), .int .i64 n] w (TakeOk w a g (takeA s n)) := by
  have H := Lib.hid h
  have c0 := h.c0
  have c1 := h.c1
  have f1 := h.blk.free 1
  have hle := h.le
  have hro := h.room
  have hlt := h.blk.lt
  clear h
  by_cases h0 : n < 0
  · have e : takeA s n = (s, (0 : Int), (1 : Int)) := by unfold takeA; rw [if_pos h0]
    have HE := Lib.hid e
    clear e
    go_enter Tryz.func26, Tryz.ntmps26
    go_wp2
    go_ret2
    rw [HE.out]
    exact ⟨rfl, H.out, Turns.refl _ _⟩
  · by_cases h1 : (s.room : Int) - s.W.length < n
    · have e : takeA s n = (s, (0 : Int), (3 : Int)) := by unfold takeA; rw [if_neg h0, if_pos h1]
      have HE := Lib.hid e
      have x1 : IntKind.i64.wrap ((s.room : Int) - s.W.length) = (s.room : Int) - s.W.length := IntWalk.i64_in _ (by omega)
      clear e
      go_enter Tryz.func26, Tryz.ntmps26
      go_wp2
      go_quiet (fail)
      go_wp2
      go_ret2
      rw [HE.out]
      exact ⟨rfl, H.out.turns (S := []) ((Turns.refl _ _).drewN _) (by simp) (by simp), (Turns.refl _ _).drewN _⟩
    · have e : takeA s n = ({ s with W := s.W ++ List.replicate n.toNat 0 }, (s.W.length : Int) + 1, (0 : Int)) := by unfold takeA; rw [if_neg h0, if_neg h1]
      have HE := Lib.hid e
      have x1 : IntKind.i64.wrap ((s.room : Int) - s.W.length) = (s.room : Int) - s.W.length := IntWalk.i64_in _ (by omega)
      have h2 : n ≤ 4096 := by omega
      clear e
      go_enter Tryz.func26, Tryz.ntmps26
      go_wp2
      go_quiet (fail)
      clear x1
      go_wp2
      go_ret2
      rw [HE.out]
      obtain ⟨m, rfl⟩ := Int.eq_ofNat_of_zero_le (show 0 ≤ n by omega)
      have hb := (H.out.blk.drewN nq).set_ 1 (.int .i64 (s.W.length + m))
      have hw := (H.out.wds.drewN nq).far (p := ⟨a, 1, none⟩) H.out.ne.symm (.int .i64 (s.W.length + m))
      refine ⟨rfl, ⟨?_, ?_, H.out.ne, by simp; omega, hro, H.out.ops⟩, ((Turns.refl _ _).drewN _).setCell (.inl (by simp)) _⟩
      · have e : arCells g ({ s with W := s.W ++ List.replicate ((m : Int).toNat) 0 }) = (arCells g s).setIfInBounds 1 (.int .i64 (s.W.length + m)) := by
          unfold arCells; simp
        rw [e]; exact hb
      · have e : wdL { s with W := s.W ++ List.replicate ((m : Int).toNat) 0 } = wdL s := by
          unfold wdL
          congr 1
          rw [List.append_assoc, List.append_cancel_left_eq, List.replicate_append_replicate]
          congr 1
          simp; omega
        rw [e]; exact hw
end Go.Proofs.YtmlcfmickonfbaaGreat
end
section
set_option linter.unusedVariables false
set_option linter.unusedSimpArgs false
/- Layer 1: Add. -/
namespace Go.Proofs.YtmlcfmickonfbaaGreat
open Go.RowKit

theorem aadd (w : World) (b o : Nat) (x y : Int) (hc : w.cell? ⟨b, o, none⟩ = some (.int .i64 x)) (hz : w.frozen? ⟨b, o, none⟩ = false) :
    Calls Tryz.prog 100 #[.pointer (some ⟨b, o, none⟩), .int .i64 y] w fun e w' => e = .returned (.int .i64 (IntKind.i64.wrap (x + y))) ∧ w' = w.setCell ⟨b, o, none⟩ (.int .i64 (IntKind.i64.wrap (x + y))) := by
  obtain ⟨s, hs⟩ : ∃ s, s = IntKind.i64.wrap (x + y) := ⟨_, rfl⟩
  rw [← hs]
  have hl := run_call_add (P := Tryz.prog) Tryz.func107 (by kernel_rfl) (by kernel_rfl) (by kernel_rfl) .i64 (by kernel_rfl) (y := y) (s := s) hc hz (by rw [hs]; rfl)
  clear hs
  go_enter Tryz.func100, Tryz.ntmps100
  go_wp2
  go_ret
  exact ⟨rfl, rfl⟩
theorem add_any {w : World} {a g : Nat} {s : Ar} (h : ArIs w a g s) (x d : Int) (ho : s.ops + 1 ≤ 1000000000000) :
    Calls Tryz.prog 80 #[.pointer (some ⟨a, 0, none⟩), .int .i64 x, .int .i64 d] w (OpDone w a g (addA s x d) (.int .i64 (if inR s.W x then IntKind.i64.wrap (ldW s.W x + d) else 0))) := by
  have H := Lib.hid h
  cases hx : inR s.W x
  · have e : OpDone w a g (addA s x d) (.int .i64 (if false = true then IntKind.i64.wrap (ldW s.W x + d) else 0)) (.returned (.int .i64 0)) w := ⟨rfl, by unfold addA; rw [noteA_out s _ _ _ hx, wrA_out s _ _ hx]; exact h, Turns.refl _ _⟩
    have HX := Lib.hid hx
    clear h hx
    go_enter Tryz.func80, Tryz.ntmps80
    go_wp2_with fail
    refine (word_out H.out x HX.out).mono ?_
    rintro en w1 ⟨rfl, rfl⟩
    go_wp2
    go_ret
    exact e
  · have HX := Lib.hid hx
    have HE := Lib.hid (ldW_in hx)
    have h12 := inR_true.1 hx
    have hil : x.toNat - 1 < s.W.length := by omega
    clear h hx
    go_enter Tryz.func80, Tryz.ntmps80
    go_wp2_with fail
    refine (word_in H.out x HX.out).mono ?_
    rintro en w1 ⟨rfl, rfl⟩
    go_wp2_with fail
    refine (note_any H.out 5 x true HX.out ho).mono ?_
    rintro en w1 ⟨rfl, h1, t1⟩
    have hc := h1.word (i := x.toNat - 1) (by rw [noteA_W]; exact hil)
    rw [noteA_W, ← HE.out] at hc
    have hp := h1.put (x := x) (by rw [noteA_W]; exact HX.out) (IntKind.i64.wrap (ldW s.W x + d))
    have H1 := Lib.hid (And.intro hp t1)
    have HC := Lib.hid hc
    clear h1 t1 hp hc
    go_wp2_with fail
    refine (aadd _ _ _ _ _ HC.out.1 HC.out.2).mono ?_
    rintro en w2 ⟨rfl, rfl⟩
    obtain ⟨r, hr⟩ : ∃ r, r = IntKind.i64.wrap (ldW s.W x + d) := ⟨_, rfl⟩
    have hr2 : -9223372036854775808 ≤ r ∧ r ≤ 9223372036854775807 := by rw [hr, IntKind.wrap_i64]; omega
    obtain ⟨hr3, hr4⟩ := hr2
    rw [← hr]
    have HR := Lib.hid hr
    clear hr
    go_wp2
    go_ret
    exact ⟨by rw [HR.out]; rfl, by rw [HR.out]; exact H1.out.1.1, by rw [HR.out]; exact (turns_ag H1.out.2).trans H1.out.1.2⟩
end Go.Proofs.YtmlcfmickonfbaaGreat
end
section
set_option linter.unusedVariables false
set_option linter.unusedSimpArgs false
/- Spots in a block of their own. -/
namespace Go.Proofs.YtmlcfmickonfbaaGreat
open Go.RowKit

def encP4 (p : Sp) : List Value := [.int .i64 p.pc, .int .i64 p.a, .int .i64 p.b, .int .i64 p.c]
theorem encP4_len (p : Sp) : (encP4 p).length = 4 := rfl
/-- spots in a block of their own -/
def SpIs (w : World) (q : Nat) (S : List Sp) : Prop := Blk w q 38 (S.flatMap encP4).toArray
theorem SpIs.cell {w : World} {q : Nat} {S : List Sp} (h : SpIs w q S) {i : Nat} {p : Sp} (hp : S[i]? = some p) (j : Nat) (u : Value) (hu : (encP4 p)[j]? = some u) : w.cell? ⟨q, i * 4 + j, none⟩ = some u := by
  rw [Blk.cell h]
  simpa using getElem?_flatMap encP4 4 encP4_len S i p j u hp hu
theorem flatSet {α : Type} (enc : α → List Value) (sz : Nat) (hs : ∀ x, (enc x).length = sz) (l : List α) :
    ∀ k x x' j u, l[k]? = some x → j < sz → (enc x).set j u = enc x' → (l.flatMap enc).set (k * sz + j) u = (l.set k x').flatMap enc := by
  induction l with
  | nil => intro k x x' j u h; simp at h
  | cons a l ih =>
    intro k x x' j u h hj he
    cases k with
    | zero =>
      simp at h; subst h
      rw [List.set_cons_zero, List.flatMap_cons, List.flatMap_cons, List.set_append_left _ _ (by rw [hs]; omega)]
      simp [he]
    | succ k =>
      rw [List.set_cons_succ, List.flatMap_cons, List.flatMap_cons, List.set_append_right _ _ (by rw [hs, Nat.succ_mul]; omega), hs]
      have : (k + 1) * sz + j - sz = k * sz + j := by rw [Nat.succ_mul]; omega
      rw [this, ih k x x' j u (by simpa using h) hj he]
theorem SpIs.put {w : World} {q : Nat} {S : List Sp} (h : SpIs w q S) {i : Nat} {p p' : Sp} (hp : S[i]? = some p) {j : Nat} {u : Value} (hj : j < 4) (he : (encP4 p).set j u = encP4 p') :
    SpIs (w.setCell ⟨q, i * 4 + j, none⟩ u) q (S.set i p') := by
  have h1 := Blk.set_ h (i * 4 + j) u
  unfold SpIs
  rw [List.setIfInBounds_toArray, flatSet encP4 4 encP4_len S i p p' j u hp hj he] at h1
  exact h1
theorem SpIs.lt {w : World} {q : Nat} {S : List Sp} (h : SpIs w q S) : q < w.heap.size := Blk.lt h
theorem SpIs.free {w : World} {q : Nat} {S : List Sp} (h : SpIs w q S) (i : Nat) : w.frozen? ⟨q, i, none⟩ = false := Blk.free h i
theorem SpIs.turns {w w' : World} {q : Nat} {S : List Sp} {T : List Nat} (h : SpIs w q S) (k : Turns T w w') (hq : q ∉ T) : SpIs w' q S := k.blk h hq

def spotV (p : Sp) : Value := .agg #[.int .i64 p.pc, .int .i64 p.a, .int .i64 p.b, .int .i64 p.c]
theorem field_pc (a b c d : Int) (w : World) : (Instr.field 38 (.agg #[.int .i64 a, .int .i64 b, .int .i64 c, .int .i64 d]) 0).run Tryz.prog w = .ok (.int .i64 a) w := by kernel_rfl
end Go.Proofs.YtmlcfmickonfbaaGreat
end
section
set_option linter.unusedVariables false
set_option linter.unusedSimpArgs false
/- Layers 15 to 20: how a flat lock of a kind lies in memory. -/
namespace Go.Proofs.YtmlcfmickonfbaaGreat
open Go.RowKit

/-- spots at the head of a block -/
def SpR (w : World) (q : Nat) (S : List Sp) : Prop := ∃ Z : List Value, Blk w q 38 (S.flatMap encP4 ++ Z).toArray
section
variable {w w' : World} {q : Nat} {S : List Sp}
theorem flat4_len (S : List Sp) : (S.flatMap encP4).length = S.length * 4 := by
  induction S with
  | nil => rfl
  | cons a l ih => rw [List.flatMap_cons, List.length_append, ih, encP4_len, List.length_cons]; omega
theorem SpR.cell (h : SpR w q S) {i : Nat} {p : Sp} (hp : S[i]? = some p) (j : Nat) (u : Value) (hu : (encP4 p)[j]? = some u) : w.cell? ⟨q, i * 4 + j, none⟩ = some u := by
  obtain ⟨Z, h⟩ := h
  rw [Blk.cell h]
  have h1 := getElem?_flatMap encP4 4 encP4_len S i p j u hp hu
  have h2 : i * 4 + j < (S.flatMap encP4).length := (List.getElem?_eq_some_iff.1 h1).1
  simp only [List.getElem?_toArray]
  rw [List.getElem?_append_left h2, h1]
theorem SpR.put (h : SpR w q S) {i : Nat} {p p' : Sp} (hp : S[i]? = some p) {j : Nat} {u : Value} (hj : j < 4) (he : (encP4 p).set j u = encP4 p') : SpR (w.setCell ⟨q, i * 4 + j, none⟩ u) q (S.set i p') := by
  obtain ⟨Z, h⟩ := h
  have h1 := Blk.set_ h (i * 4 + j) u
  have hi := (List.getElem?_eq_some_iff.1 hp).1
  refine ⟨Z, ?_⟩
  rw [List.setIfInBounds_toArray, List.set_append_left _ _ (by rw [flat4_len]; omega), flatSet encP4 4 encP4_len S i p p' j u hp hj he] at h1
  exact h1
theorem SpR.lt (h : SpR w q S) : q < w.heap.size := by obtain ⟨Z, h⟩ := h; exact Blk.lt h
theorem SpR.free (h : SpR w q S) (i : Nat) : w.frozen? ⟨q, i, none⟩ = false := by obtain ⟨Z, h⟩ := h; exact Blk.free h i
theorem SpR.turns {T : List Nat} (h : SpR w q S) (k : Turns T w w') (hq : q ∉ T) : SpR w' q S := by obtain ⟨Z, h⟩ := h; exact ⟨Z, k.blk h hq⟩
end
/-- where a flat lock lies: flat's own block, the kind's, the spots'; first word, how long or how many, slots, room -/
structure Fx where
  p : Nat
  l : Nat
  q : Nat
  k : Nat
  t : Nat
  m : Nat
  n : Nat
  cap : Nat
def lkT : Nat → TypeId
  | 1 => 154
  | 2 => 158
  | 3 => 160
  | 4 => 162
  | _ => 164
def lkC (k a : Nat) (x : Fx) : Array Value :=
  match k with
  | 1 => #[.pointer (some ⟨a, 0, none⟩), .int .i64 x.t, .int .i64 x.m, .slice (some ⟨x.q, 0, none⟩) x.n x.cap]
  | 2 => #[.slice (some ⟨x.q, 0, none⟩) x.n x.cap, .pointer (some ⟨a, 0, none⟩), .int .i64 x.t]
  | 3 => #[.pointer (some ⟨a, 0, none⟩), .int .i64 x.t, .int .i64 x.m, .slice (some ⟨x.q, 0, none⟩) x.n x.cap]
  | _ => #[.pointer (some ⟨a, 0, none⟩), .int .i64 x.t, .slice (some ⟨x.q, 0, none⟩) x.n x.cap]
structure KIs (w : World) (a g k : Nat) (x : Fx) (s : Ar) (S : List Sp) : Prop where
  ar : ArIs w a g s
  lk : Blk w x.l (lkT k) (lkC k a x)
  sp : SpR w x.q S
  n : S.length = x.n
  la : x.l ≠ a
  lg : x.l ≠ g
  lq : x.l ≠ x.q
  qa : x.q ≠ a
  qg : x.q ≠ g
  n32 : x.n ≤ 32
  t0 : 1 ≤ x.t
  t1 : x.t ≤ 5000
  m0 : 1 ≤ x.m
  m1 : x.m ≤ 4
  cap : x.n ≤ x.cap
section
variable {w w' : World} {a g k : Nat} {x : Fx} {s s' : Ar} {S S' : List Sp} {T : List Nat}
theorem KIs.turns (h : KIs w a g k x s S) (t : Turns T w w') (h1 : x.l ∉ T) (h2 : a ∉ T) (h3 : g ∉ T) (h4 : x.q ∉ T) : KIs w' a g k x s S :=
  { h with ar := h.ar.turns t h2 h3, lk := t.blk h.lk h1, sp := h.sp.turns t h4 }
theorem KIs.below (h : KIs w a g k x s S) (t : Below w.heap.size w w') : KIs w' a g k x s S :=
  h.turns (T := []) (Turns.of_below t) (by simp) (by simp) (by simp) (by simp)
theorem KIs.op (h : KIs w a g k x s S) (t : Turns [a, g] w w') (ha : ArIs w' a g s') : KIs w' a g k x s' S :=
  { h with ar := ha, lk := t.blk h.lk (by simp [h.la, h.lg]), sp := h.sp.turns t (by simp [h.qa, h.qg]) }
theorem KIs.spt (h : KIs w a g k x s S) (t : Turns [x.q] w w') (hs : SpR w' x.q S') (hn : S'.length = S.length) : KIs w' a g k x s S' :=
  { h with ar := h.ar.turns t (by simpa using fun e => h.qa e.symm) (by simpa using fun e => h.qg e.symm), lk := t.blk h.lk (by simpa using h.lq), sp := hs, n := hn.trans h.n }
theorem turns_q (q i : Nat) (u : Value) : Turns [q] w (w.setCell ⟨q, i, none⟩ u) := (Turns.refl _ _).setCell (.inl (by simp)) _
theorem KIs.put (h : KIs w a g k x s S) {i : Nat} {p p' : Sp} (hp : S[i]? = some p) {j : Nat} {u : Value} (hj : j < 4) (he : (encP4 p).set j u = encP4 p') : KIs (w.setCell ⟨x.q, i * 4 + j, none⟩ u) a g k x s (S.set i p') :=
  h.spt (turns_q _ _ _) (h.sp.put hp hj he) (by simp)
theorem KIs.put0 (h : KIs w a g k x s S) {i : Nat} {p p' : Sp} (hp : S[i]? = some p) {u : Value} (he : (encP4 p).set 0 u = encP4 p') : KIs (w.setCell ⟨x.q, i * 4, none⟩ u) a g k x s (S.set i p') :=
  h.put hp (j := 0) (by decide) he
theorem setS_set (S : List Sp) (i : Nat) (p q : Sp) : (S.set i p).set i q = S.set i q := by simp
theorem getS_set {S : List Sp} {i : Nat} {p : Sp} (h : S[i]? = some p) (q : Sp) : (S.set i q)[i]? = some q := by
  have := (List.getElem?_eq_some_iff.1 h).1
  simp [this]
theorem setS_id {S : List Sp} {i : Nat} {p : Sp} (hp : S[i]? = some p) : S.set i p = S := by
  apply List.ext_getElem?
  intro j
  rw [List.getElem?_set]
  by_cases e : i = j
  · subst e
    have := (List.getElem?_eq_some_iff.1 hp).1
    rw [if_pos rfl, if_pos this, hp]
  · rw [if_neg e]
end
end Go.Proofs.YtmlcfmickonfbaaGreat
end
