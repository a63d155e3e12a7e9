/- Joined: Ar2, Ar3, Ar2S, Fk1, Fk2, Top1, Top2. -/
import Derived.Laws.Externs
import Derived.Deep.QuietTactic
import Derived.BigQuiet
import Derived.Test.YtbkckbphkfakkaaGreatRows
import Derived.Deep.AppendLies
import Derived.Deep.RegionHeld3
import Derived.Laws.MakeOwn
import Derived.Deep.DeepCutAuto
import Derived.RegionCalls
import Derived.Test.YtbkckbphkfakkaaGreatMgWritersQuiet1
section
/- Layer 1: what the arena's ops do. -/
namespace Go.Proofs.YtbkckbphkfakkaaGreat
open Go.RowKit

theorem run_call_swap {P : Program} {f : FuncId} {fn : Func} (hf : P.funcs[f]? = some fn) (hname : (fn.name == "runtime.NumGoroutine") = false) (hb : fn.body.isNone = true) (hn : Extern.findNext fn = none) (k : IntKind)
    (he : Extern.find fn = some (Extern.Atomic.swapT (.int k))) {a : Addr} {x y : Int} {w : World} (hc : w.cell? a = some (.int k x)) (hz : w.frozen? a = false) :
    (callFunc f #[.pointer (some a), .int k y]).run P w = .ok (.value (.int k x)) (w.setCell a (.int k y)) := by
  rw [run_callFunc_extern hf hname hb hn he]
  change (Sem.run P (do
    let a' ← asAddr (.pointer (some a))
    let old ← Extern.Atomic.read (.int k) a'
    store a' (.int k y) .atomic
    pure old) w).andThen _ = _
  simp [Extern.Atomic.read, asAddr, hc, hz, run_store P w a (.int k y) .atomic rfl, Result.andThen]

theorem aload (w : World) (p : Addr) (x : Int) (hc : w.cell? p = some (.int .i64 x)) (hp : p.spot = none) :
    Calls Tryz.prog 77 #[.pointer (some p)] w fun e w' => e = .returned (.int .i64 x) ∧ w = w' := by
  obtain ⟨b, o, sp⟩ := p
  obtain rfl : sp = none := hp
  have hl := run_call_load (P := Tryz.prog) Tryz.func101 (by kernel_rfl) (by kernel_rfl) (by kernel_rfl) .i64 (by kernel_rfl) hc
  clear hc
  go_enter Tryz.func77, Tryz.ntmps77
  go_wp2
  go_ret
  exact ⟨rfl, rfl⟩
theorem aswap (w : World) (b o : Nat) (x y : Int) (hc : w.cell? ⟨b, o, none⟩ = some (.int .i64 x)) (hz : w.frozen? ⟨b, o, none⟩ = false) :
    Calls Tryz.prog 229 #[.pointer (some ⟨b, o, none⟩), .int .i64 y] w fun e w' => e = .returned (.int .i64 x) ∧ w' = w.setCell ⟨b, o, none⟩ (.int .i64 y) := by
  have hl := run_call_swap (P := Tryz.prog) Tryz.func230 (by kernel_rfl) (by kernel_rfl) (by kernel_rfl) .i64 (by kernel_rfl) (y := y) hc hz
  go_enter Tryz.func229, Tryz.ntmps229
  go_wp2
  go_ret
  exact ⟨rfl, rfl⟩
theorem ArIs.put {w : World} {a g : Nat} {s : Ar} (h : ArIs w a g s) {x : Int} (hx : inR s.W x = true) (v : Int) :
    ArIs (w.setCell ⟨g, x.toNat - 1, none⟩ (.int .i64 v)) a g (wrA s x v) ∧ Turns [a, g] w (w.setCell ⟨g, x.toNat - 1, none⟩ (.int .i64 v)) := by
  have h12 := inR_true.1 hx
  refine ⟨⟨?_, ?_, h.ne, ?_, h.room, h.ops⟩, (Turns.refl _ _).setCell (.inl (by simp)) _⟩
  · have := h.blk.far (p := ⟨g, x.toNat - 1, none⟩) h.ne (.int .i64 v)
    have e : arCells g (wrA s x v) = arCells g s := by unfold arCells wrA; rw [stW_len]
    rw [e]; exact this
  · have := h.wds.set_ (x.toNat - 1) (.int .i64 v)
    rw [wdL_set s (by omega)] at this
    have e : wrA s x v = { s with W := s.W.set (x.toNat - 1) v } := by unfold wrA stW; rw [if_pos hx]
    rw [e]; exact this
  · show (stW s.W x v).length ≤ _
    rw [stW_len]; exact h.le
theorem turns_ag {a g : Nat} {w w' : World} (h : Turns [a] w w') : Turns [a, g] w w' := h.mono (by simp)
def OpDone (w : World) (a g : Nat) (s' : Ar) (r : Value) (e : Ending) (w' : World) : Prop := e = .returned r ∧ ArIs w' a g s' ∧ Turns [a, g] w w'

theorem load_any {w : World} {a g : Nat} {s : Ar} (h : ArIs w a g s) (x : Int) (ho : s.ops + 1 ≤ 1000000000000) :
    Calls Tryz.prog 43 #[.pointer (some ⟨a, 0, none⟩), .int .i64 x] w (OpDone w a g (loadA s x) (.int .i64 (ldW s.W x))) := by
  have H := Lib.hid h
  cases hx : inR s.W x
  · have e : OpDone w a g (loadA s x) (.int .i64 (ldW s.W x)) (.returned (.int .i64 0)) w := ⟨by rw [ldW_out hx], by unfold loadA; rw [noteA_out s _ _ _ hx]; exact h, Turns.refl _ _⟩
    have HX := Lib.hid hx
    clear h hx
    go_enter Tryz.func43, Tryz.ntmps43
    go_wp2_with fail
    refine (word_out H.out x HX.out).mono ?_
    rintro en w1 ⟨rfl, rfl⟩
    go_wp2
    go_ret
    exact e
  · have HX := Lib.hid hx
    have HE := Lib.hid (ldW_in hx)
    have h12 := inR_true.1 hx
    have hil : x.toNat - 1 < s.W.length := by omega
    clear h hx
    go_enter Tryz.func43, Tryz.ntmps43
    go_wp2_with fail
    refine (word_in H.out x HX.out).mono ?_
    rintro en w1 ⟨rfl, rfl⟩
    go_wp2_with fail
    refine (note_any H.out 1 x false HX.out ho).mono ?_
    rintro en w1 ⟨rfl, h1, t1⟩
    have hc := (h1.word (i := x.toNat - 1) (by rw [noteA_W]; exact hil)).1
    rw [noteA_W] at hc
    have H1 := Lib.hid (And.intro h1 t1)
    clear h1 t1
    go_wp2_with fail
    refine (aload _ _ _ hc rfl).mono ?_
    rintro en w2 ⟨rfl, rfl⟩
    clear hc
    rw [← HE.out]
    obtain ⟨r, hr⟩ : ∃ r, r = ldW s.W x := ⟨_, rfl⟩
    rw [← hr]
    have HR := Lib.hid hr
    clear hr
    go_wp2
    go_ret
    exact ⟨by rw [HR.out]; rfl, H1.out.1, turns_ag H1.out.2⟩
theorem swap_any {w : World} {a g : Nat} {s : Ar} (h : ArIs w a g s) (x v : Int) (ho : s.ops + 1 ≤ 1000000000000) :
    Calls Tryz.prog 228 #[.pointer (some ⟨a, 0, none⟩), .int .i64 x, .int .i64 v] w (OpDone w a g (swapA s x v) (.int .i64 (ldW s.W x))) := by
  have H := Lib.hid h
  cases hx : inR s.W x
  · have e : OpDone w a g (swapA s x v) (.int .i64 (ldW s.W x)) (.returned (.int .i64 0)) w := ⟨by rw [ldW_out hx], by unfold swapA; rw [noteA_out s _ _ _ hx, wrA_out s _ _ hx]; exact h, Turns.refl _ _⟩
    have HX := Lib.hid hx
    clear h hx
    go_enter Tryz.func228, Tryz.ntmps228
    go_wp2_with fail
    refine (word_out H.out x HX.out).mono ?_
    rintro en w1 ⟨rfl, rfl⟩
    go_wp2
    go_ret
    exact e
  · have HX := Lib.hid hx
    have HE := Lib.hid (ldW_in hx)
    have h12 := inR_true.1 hx
    have hil : x.toNat - 1 < s.W.length := by omega
    clear h hx
    go_enter Tryz.func228, Tryz.ntmps228
    go_wp2_with fail
    refine (word_in H.out x HX.out).mono ?_
    rintro en w1 ⟨rfl, rfl⟩
    go_wp2_with fail
    refine (note_any H.out 3 x true HX.out ho).mono ?_
    rintro en w1 ⟨rfl, h1, t1⟩
    have hc := h1.word (i := x.toNat - 1) (by rw [noteA_W]; exact hil)
    rw [noteA_W] at hc
    have hp := h1.put (x := x) (by rw [noteA_W]; exact HX.out) v
    have H1 := Lib.hid (And.intro hp t1)
    have HC := Lib.hid hc
    clear h1 t1 hp hc
    go_wp2_with fail
    refine (aswap _ _ _ _ _ HC.out.1 HC.out.2).mono ?_
    rintro en w2 ⟨rfl, rfl⟩
    rw [← HE.out]
    obtain ⟨r, hr⟩ : ∃ r, r = ldW s.W x := ⟨_, rfl⟩
    rw [← hr]
    have HR := Lib.hid hr
    clear hr
    go_wp2
    go_ret
    exact ⟨by rw [HR.out]; rfl, H1.out.1.1, (turns_ag H1.out.2).trans H1.out.1.2⟩
end Go.Proofs.YtbkckbphkfakkaaGreat
end
section
/- Layer 1: a new arena, and taking words. -/
namespace Go.Proofs.YtbkckbphkfakkaaGreat
open Go.RowKit

theorem Tryz.infoAt : (Tryz.prog.info? 146).map (fun i => (i.zero, i.size, i.bytes)) = some (some (.agg #[.int .i64 0]), 1, 8) := by kernel_rfl
theorem made_const1 (u : Value) (n : Nat) : (madeCells #[u] n).toList = List.replicate n u := by
  unfold madeCells
  rw [Array.toList_map, Array.toList_range]
  refine List.ext_getElem? fun i => ?_
  rw [List.getElem?_map, List.getElem?_replicate]
  by_cases h : i < n
  · rw [List.getElem?_range h, if_pos h]; simp [Nat.mod_one]
  · rw [if_neg h]; simp; omega
theorem own_blk {w : World} {base : Nat} {e : TypeId} {sz g n : Nat} {xs : List Value} (h : w.ownsRow base e sz (.slice (some ⟨g, 0, none⟩) n n) n xs) : Blk w g e xs.toArray := by
  rcases h.2 with ⟨h', _⟩ | ⟨g', cap', cur, h', hb, hg, hnc, hcm, hcs, ht⟩
  · simp at h'
  · simp only [Value.slice.injEq, Option.some.injEq, Addr.mk.injEq, and_true, true_and] at h'
    obtain ⟨rfl, rfl⟩ := h'
    have e1 : cur = xs.toArray := by
      rw [← ht]
      apply Array.ext'
      rw [List.take_of_length_le (by rw [Array.length_toList, hcs]; exact Nat.le_refl _)]
    unfold Blk
    rw [hg, e1]
def clampA (room : Int) : Nat := if room < 0 then 0 else if 4096 < room then 4096 else room.toNat
def newAr (room : Int) : Ar := ⟨[], clampA room, 0, 0, 0, false⟩
def NewA (w : World) (room : Int) (e : Ending) (w' : World) : Prop := ∃ a g, e = .returned (.pointer (some ⟨a, 0, none⟩)) ∧ ArIs w' a g (newAr room) ∧ w.heap.size ≤ a ∧ w.heap.size ≤ g ∧ Below w.heap.size w w'
set_option maxRecDepth 100000 in
set_option maxHeartbeats 1000000 in
theorem newA_any (w : World) (room : Int) : Calls Tryz.prog 33 #[.int .i64 room] w (NewA w room) := by
  obtain ⟨i0, hi, hz0, hz1, hz2⟩ := info_parts Tryz.infoAt
  obtain ⟨n, hn⟩ : ∃ n, n = clampA room := ⟨_, rfl⟩
  have hc : n ≤ 4096 := by rw [hn]; unfold clampA; split <;> (try split) <;> omega
  have HN := Lib.hid hn
  have key : ∀ (w1 : World), w1.ownsRow w.heap.size 146 1 (.slice (some ⟨w.heap.size, 0, none⟩) n n) n (madeCells #[.int .i64 0] n).toList → w.grownBy w1 none →
      ArIs (w1.alloc (.cells #[.slice (some ⟨w.heap.size, 0, none⟩) n n, .int .i64 0, .int .i64 0, .int .i64 0, .int .i64 0, .bool false] 69)) w1.heap.size w.heap.size (newAr room) ∧ w.heap.size ≤ w1.heap.size ∧ Below w.heap.size w (w1.alloc (.cells #[.slice (some ⟨w.heap.size, 0, none⟩) n n, .int .i64 0, .int .i64 0, .int .i64 0, .int .i64 0, .bool false] 69)) := by
    intro w1 hown hg
    rw [made_const1] at hown
    have hb := own_blk hown
    have hlt := hb.lt
    refine ⟨⟨?_, ?_, by omega, by simp [newAr], by simp [newAr]; omega, by simp [newAr]⟩, by omega, ((Below.refl w.heap.size w).grown hg (Nat.le_refl _) (fun j hj => by cases hj)).alloc (by omega) _⟩
    · have := Blk.new w1 69 (arCells w.heap.size (newAr room))
      unfold arCells newAr at this ⊢
      rw [← HN.out] at this ⊢
      simpa using this
    · have e : (wdL (newAr room)).toArray = (List.replicate n (Value.int .i64 0)).toArray := by unfold wdL newAr; simp [← HN.out]
      rw [e]
      exact hb.alloc _
  have KEY := Lib.hid key
  clear key
  rcases (show 4096 < room ∨ (room ≤ 4096 ∧ 0 < room) ∨ room ≤ 0 by omega) with h | ⟨h, h'⟩ | h
  · have E : Hid ((4096 : Int) = (n : Int)) := Lib.hid (by rw [hn]; unfold clampA; rw [if_neg (by omega), if_pos h]; rfl)
    clear hn
    go_enter Tryz.func33, Tryz.ntmps33
    go_wp2_with (refine wpList_make_full _ rfl (.tmp 5) (.tmp 5) 67 rfl w.heap.size 146 i0 (.agg #[.int .i64 0]) 1 Tryz.underlying67 hi hz0 hz1 .i64 .i64 4096 4096 n rfl rfl E.out E.out ?b2 ?b3 (Nat.le_refl _) ?_)
    case b2 => rw [hz2]; omega
    case b3 => unfold maxLen; omega
    intro w1 hown hg
    obtain ⟨k1, k2, k3⟩ := KEY.out w1 hown hg
    clear hown hg
    go_wp2
    go_ret
    exact ⟨_, _, rfl, k1, k2, Nat.le_refl _, k3⟩
  · have E : Hid (room = (n : Int)) := Lib.hid (by rw [hn]; unfold clampA; rw [if_neg (by omega), if_neg (by omega)]; omega)
    clear hn
    go_enter Tryz.func33, Tryz.ntmps33
    go_wp2_with (refine wpList_make_full _ rfl (.tmp 5) (.tmp 5) 67 rfl w.heap.size 146 i0 (.agg #[.int .i64 0]) 1 Tryz.underlying67 hi hz0 hz1 .i64 .i64 room room n rfl rfl E.out E.out ?b2 ?b3 (Nat.le_refl _) ?_)
    case b2 => rw [hz2]; omega
    case b3 => unfold maxLen; omega
    intro w1 hown hg
    obtain ⟨k1, k2, k3⟩ := KEY.out w1 hown hg
    clear hown hg
    go_wp2
    go_ret
    exact ⟨_, _, rfl, k1, k2, Nat.le_refl _, k3⟩
  · have E : Hid ((0 : Int) = (n : Int)) := Lib.hid (by rw [hn]; unfold clampA; split <;> (try split) <;> omega)
    have h4 : room ≤ 4096 := by omega
    clear hn
    go_enter Tryz.func33, Tryz.ntmps33
    go_wp2_with (refine wpList_make_full _ rfl (.tmp 5) (.tmp 5) 67 rfl w.heap.size 146 i0 (.agg #[.int .i64 0]) 1 Tryz.underlying67 hi hz0 hz1 .i64 .i64 0 0 n rfl rfl E.out E.out ?b2 ?b3 (Nat.le_refl _) ?_)
    case b2 => rw [hz2]; omega
    case b3 => unfold maxLen; omega
    intro w1 hown hg
    obtain ⟨k1, k2, k3⟩ := KEY.out w1 hown hg
    clear hown hg
    go_wp2
    go_ret
    exact ⟨_, _, rfl, k1, k2, Nat.le_refl _, k3⟩

def takeA (s : Ar) (n : Int) : Ar × Int × Int :=
  if n < 0 then (s, (0 : Int), (1 : Int)) else if (s.room : Int) - s.W.length < n then (s, (0 : Int), (3 : Int)) else ({ s with W := s.W ++ List.replicate n.toNat 0 }, (s.W.length : Int) + 1, (0 : Int))
def TakeOk (w : World) (a g : Nat) (x : Ar × Int × Int) (e : Ending) (w' : World) : Prop := e = .returned (.tuple #[.int .i64 x.2.1, .int .i64 x.2.2]) ∧ ArIs w' a g x.1 ∧ Turns [a] w w'
set_option maxRecDepth 100000 in
set_option maxHeartbeats 1000000 in
theorem take_any {w : World} {a g : Nat} {s : Ar} (h : ArIs w a g s) (n : Int) :
    Calls Tryz.prog 64 #[.pointer (some ⟨a, 0, none⟩), .int .i64 n] w (TakeOk w a g (takeA s n)) := by
  have H := Lib.hid h
  have c0 := h.c0
  have c1 := h.c1
  have f1 := h.blk.free 1
  have hle := h.le
  have hro := h.room
  have hlt := h.blk.lt
  clear h
  by_cases h0 : n < 0
  · have e : takeA s n = (s, (0 : Int), (1 : Int)) := by unfold takeA; rw [if_pos h0]
    have HE := Lib.hid e
    clear e
    go_enter Tryz.func64, Tryz.ntmps64
    go_wp2
    go_ret2
    rw [HE.out]
    exact ⟨rfl, H.out, Turns.refl _ _⟩
  · by_cases h1 : (s.room : Int) - s.W.length < n
    · have e : takeA s n = (s, (0 : Int), (3 : Int)) := by unfold takeA; rw [if_neg h0, if_pos h1]
      have HE := Lib.hid e
      have x1 : IntKind.i64.wrap ((s.room : Int) - s.W.length) = (s.room : Int) - s.W.length := IntWalk.i64_in _ (by omega)
      clear e
      go_enter Tryz.func64, Tryz.ntmps64
      go_wp2
      go_quiet (fail)
      go_wp2
      go_ret2
      rw [HE.out]
      exact ⟨rfl, H.out.turns (S := []) ((Turns.refl _ _).drewN _) (by simp) (by simp), (Turns.refl _ _).drewN _⟩
    · have e : takeA s n = ({ s with W := s.W ++ List.replicate n.toNat 0 }, (s.W.length : Int) + 1, (0 : Int)) := by unfold takeA; rw [if_neg h0, if_neg h1]
      have HE := Lib.hid e
      have x1 : IntKind.i64.wrap ((s.room : Int) - s.W.length) = (s.room : Int) - s.W.length := IntWalk.i64_in _ (by omega)
      have h2 : n ≤ 4096 := by omega
      clear e
      go_enter Tryz.func64, Tryz.ntmps64
      go_wp2
      go_quiet (fail)
      clear x1
      go_wp2
      go_ret2
      rw [HE.out]
      obtain ⟨m, rfl⟩ := Int.eq_ofNat_of_zero_le (show 0 ≤ n by omega)
      have hb := (H.out.blk.drewN nq).set_ 1 (.int .i64 (s.W.length + m))
      have hw := (H.out.wds.drewN nq).far (p := ⟨a, 1, none⟩) H.out.ne.symm (.int .i64 (s.W.length + m))
      refine ⟨rfl, ⟨?_, ?_, H.out.ne, by simp; omega, hro, H.out.ops⟩, ((Turns.refl _ _).drewN _).setCell (.inl (by simp)) _⟩
      · have e : arCells g ({ s with W := s.W ++ List.replicate ((m : Int).toNat) 0 }) = (arCells g s).setIfInBounds 1 (.int .i64 (s.W.length + m)) := by
          unfold arCells; simp
        rw [e]; exact hb
      · have e : wdL { s with W := s.W ++ List.replicate ((m : Int).toNat) 0 } = wdL s := by
          unfold wdL
          congr 1
          rw [List.append_assoc, List.append_cancel_left_eq, List.replicate_append_replicate]
          congr 1
          simp; omega
        rw [e]; exact hw
end Go.Proofs.YtbkckbphkfakkaaGreat
end
section
/- Layer 1: what Store does. -/
namespace Go.Proofs.YtbkckbphkfakkaaGreat
open Go.RowKit

theorem astore (w : World) (b o : Nat) (x y : Int) (hc : w.cell? ⟨b, o, none⟩ = some (.int .i64 x)) (hz : w.frozen? ⟨b, o, none⟩ = false) :
    Calls Tryz.prog 102 #[.pointer (some ⟨b, o, none⟩), .int .i64 y] w fun e w' => e = .returned (.tuple #[]) ∧ w' = w.setCell ⟨b, o, none⟩ (.int .i64 y) := by
  have hl := run_call_store (P := Tryz.prog) Tryz.func129 (by kernel_rfl) (by kernel_rfl) (by kernel_rfl) (by kernel_rfl) (k := .i64) (y := y) hc hz
  go_enter Tryz.func102, Tryz.ntmps102
  go_wp2
  go_end0
  exact ⟨rfl, rfl⟩
theorem store_any {w : World} {a g : Nat} {s : Ar} (h : ArIs w a g s) (x v : Int) (ho : s.ops + 1 ≤ 1000000000000) :
    Calls Tryz.prog 79 #[.pointer (some ⟨a, 0, none⟩), .int .i64 x, .int .i64 v] w (OpDone w a g (storeA s x v) (.tuple #[])) := by
  have H := Lib.hid h
  cases hx : inR s.W x
  · have e : OpDone w a g (storeA s x v) (.tuple #[]) (.returned (.tuple #[])) w := ⟨rfl, by unfold storeA; rw [noteA_out s _ _ _ hx, wrA_out s _ _ hx]; exact h, Turns.refl _ _⟩
    have HX := Lib.hid hx
    clear h hx
    go_enter Tryz.func79, Tryz.ntmps79
    go_wp2_with fail
    refine (word_out H.out x HX.out).mono ?_
    rintro en w1 ⟨rfl, rfl⟩
    go_wp2
    go_end0
    exact e
  · have HX := Lib.hid hx
    have h12 := inR_true.1 hx
    have hil : x.toNat - 1 < s.W.length := by omega
    clear h hx
    go_enter Tryz.func79, Tryz.ntmps79
    go_wp2_with fail
    refine (word_in H.out x HX.out).mono ?_
    rintro en w1 ⟨rfl, rfl⟩
    go_wp2_with fail
    refine (note_any H.out 2 x true HX.out ho).mono ?_
    rintro en w1 ⟨rfl, h1, t1⟩
    have hc := h1.word (i := x.toNat - 1) (by rw [noteA_W]; exact hil)
    have hp := h1.put (x := x) (by rw [noteA_W]; exact HX.out) v
    have H1 := Lib.hid (And.intro hp t1)
    have HC := Lib.hid hc
    clear h1 t1 hp hc
    go_wp2_with fail
    refine (astore _ _ _ _ _ HC.out.1 HC.out.2).mono ?_
    rintro en w2 ⟨rfl, rfl⟩
    go_wp2
    go_end0
    exact ⟨rfl, H1.out.1.1, (turns_ag H1.out.2).trans H1.out.1.2⟩
end Go.Proofs.YtbkckbphkfakkaaGreat
end
section
/- Layers 15 to 20: a new flat lock of any kind: it comes to be, and the arena has some words more. (written by wip/gen_fk.py) -/
namespace Go.Proofs.YtbkckbphkfakkaaGreat
open Go.RowKit

structure ArMore (s s' : Ar) (k : Nat) : Prop where
  room : s'.room = s.room
  W : ∃ X, s'.W = s.W ++ X ∧ X.length ≤ k
  ops : s'.ops ≤ s.ops + k
theorem ArMore.refl (s : Ar) : ArMore s s 0 := ⟨rfl, ⟨[], by simp, by simp⟩, by omega⟩
theorem ArMore.trans {s s' s2 : Ar} {k j : Nat} (h : ArMore s s' k) (h2 : ArMore s' s2 j) : ArMore s s2 (k + j) := by
  obtain ⟨X, e1, l1⟩ := h.W
  obtain ⟨Y, e2, l2⟩ := h2.W
  exact ⟨h2.room.trans h.room, ⟨X ++ Y, by rw [e2, e1, List.append_assoc], by simp; omega⟩, by have := h.ops; have := h2.ops; omega⟩
theorem ArMore.le {s s' : Ar} {k j : Nat} (h : ArMore s s' k) (hj : k ≤ j) : ArMore s s' j := by
  obtain ⟨X, e1, l1⟩ := h.W
  exact ⟨h.room, ⟨X, e1, by omega⟩, by have := h.ops; omega⟩
theorem ArMore.len {s s' : Ar} {k : Nat} (h : ArMore s s' k) : s'.W.length ≤ s.W.length + k := by
  obtain ⟨X, e1, l1⟩ := h.W
  rw [e1]; simp; omega
def takeS (s : Ar) (n : Nat) : Ar := { s with W := s.W ++ List.replicate n 0 }
theorem takeS_more (s : Ar) (n : Nat) : ArMore s (takeS s n) n := ⟨rfl, ⟨_, rfl, by simp⟩, by show s.ops ≤ _; omega⟩
theorem takeY {w : World} {a g : Nat} {s : Ar} (h : ArIs w a g s) (n : Nat) (hn : s.W.length + n ≤ s.room) :
    Calls Tryz.prog 64 #[.pointer (some ⟨a, 0, none⟩), .int .i64 n] w fun e w' => e = .returned (.tuple #[.int .i64 ((s.W.length : Int) + 1), .int .i64 0]) ∧ ArIs w' a g (takeS s n) ∧ Turns [a] w w' := by
  refine (take_any h n).mono ?_
  have e : takeA s n = (takeS s n, (s.W.length : Int) + 1, (0 : Int)) := by
    unfold takeA
    rw [if_neg (by omega), if_neg (by omega), Int.toNat_natCast]; rfl
  rw [e]
  rintro en w' ⟨h1, h2, h3⟩
  exact ⟨h1, h2, h3⟩
theorem storeS_more (s s0 : Ar) (k : Nat) (h : ArMore s0 s k) (x v : Int) (hx : (s0.W.length : Int) < x) : ArMore s0 (storeA s x v) (k + 1) := by
  obtain ⟨X, e1, l1⟩ := h.W
  have hW : (noteA s 2 x true).W = s.W := noteA_W _ _ _ _
  have ho : (noteA s 2 x true).ops ≤ s.ops + 1 := by unfold noteA; split <;> simp
  have hr : (noteA s 2 x true).room = s.room := by unfold noteA; split <;> rfl
  unfold storeA wrA
  refine ⟨hr.trans h.room, ?_, by have := h.ops; show (noteA s 2 x true).ops ≤ _; omega⟩
  show ∃ Y, stW (noteA s 2 x true).W x v = _ ∧ _
  rw [hW]
  unfold stW
  split
  · rename_i hin
    have hin2 := inR_true.1 hin
    refine ⟨X.set (x.toNat - 1 - s0.W.length) v, ?_, by rw [List.length_set]; omega⟩
    rw [e1, List.set_append_right _ _ (by omega)]
  · exact ⟨X, e1, by omega⟩
theorem cells_newF (w : World) (xs : List Value) (t : TypeId) : ∀ j u, xs[j]? = some u → (w.alloc (.cells xs.toArray t)).cell? ((⟨w.heap.size, 0, none⟩ : Addr).add j) = some u := by
  intro j u hj
  have k := Blk.new w t xs.toArray
  have c := k.cell j
  have e : (⟨w.heap.size, 0, none⟩ : Addr).add j = ⟨w.heap.size, j, none⟩ := by
    simp [Addr.add]
    exact fun h => h.symm
  rw [e, c]
  simpa using hj
/-- a new lock of k words at most -/
def NewK (w : World) (a g : Nat) (s : Ar) (k : Nat) (e : Ending) (w' : World) : Prop :=
  ∃ (l : Nat) (s' : Ar), e = .returned (.tuple #[.pointer (some ⟨l, 0, none⟩), .int .i64 0]) ∧ w.heap.size ≤ l ∧ l < w'.heap.size ∧ ArIs w' a g s' ∧ ArMore s s' k ∧ Turns [a, g] w w'
theorem Tryz.infoSpF : (Tryz.prog.info? 44).map (fun i => (i.zero, i.size, i.bytes)) = some (some (.agg #[.int .i64 0, .int .i64 0, .int .i64 0, .int .i64 0]), 4, 32) := by kernel_rfl
set_option maxRecDepth 100000 in
set_option maxHeartbeats 1000000 in
theorem tasNew {w : World} {a g : Nat} {s : Ar} (h : ArIs w a g s) (n : Nat) (h1 : 1 ≤ n) (h2 : n ≤ 32) (m : Nat) (hm1 : 1 ≤ m) (hm2 : m ≤ 4) (hr : s.W.length + (1) ≤ s.room) :
    Calls Tryz.prog 120 #[.pointer (some ⟨a, 0, none⟩), .int .i64 n, .int .i64 m] w (NewK w a g s (1)) := by
  obtain ⟨i0, hi, hz0, hz1, hz2⟩ := info_parts Tryz.infoSpF
  have HT := Lib.hid (takeY h (1) hr)
  have t1 : ¬ (n : Int) < 1 := by omega
  have t2 : ¬ 32 < (n : Int) := by omega
  have t3 : ¬ (m : Int) < 1 := by omega
  have t4 : ¬ 1024 < (m : Int) := by omega
  clear h hr
  go_enter Tryz.func120, Tryz.ntmps120
  go_wp2_with fail
  refine HT.out.mono ?_
  rintro en w1 ⟨rfl, k1, t1'⟩
  have H1 := Lib.hid (And.intro k1 t1')
  clear k1 t1' HT
  go_wp2_with (refine wpList_make_full _ rfl _ _ 74 rfl w1.heap.size 44 i0 (.agg #[.int .i64 0, .int .i64 0, .int .i64 0, .int .i64 0]) 4 Tryz.underlying74 hi hz0 hz1 .i64 .i64 n n n rfl rfl rfl rfl ?b2 ?b3 (Nat.le_refl _) ?_)
  case b2 => rw [hz2]; omega
  case b3 => unfold maxLen; omega
  intro w2 hown hg
  have t2' : Turns [] w1 w2 := Turns.of_below ((Below.refl w1.heap.size w1).grown hg (Nat.le_refl _) (fun j hj => by cases hj))
  have H2 := Lib.hid t2'
  clear hown hg t2'
  go_wp2
  go_ret2
  have k2 := H1.out.1.turns H2.out (by simp) (by simp)
  have s1 := H1.out.2.size
  have s2 := H2.out.size
  exact ⟨w2.heap.size, _, rfl, by omega, by simp, k2.turns (S := []) ((Turns.refl _ _).alloc _) (by simp) (by simp), takeS_more s (1), ((H1.out.2.mono (by simp)).trans (H2.out.mono (by simp))).alloc _⟩
set_option maxRecDepth 100000 in
set_option maxHeartbeats 1000000 in
theorem ticketNew {w : World} {a g : Nat} {s : Ar} (h : ArIs w a g s) (n : Nat) (h1 : 1 ≤ n) (h2 : n ≤ 32) (hr : s.W.length + (2) ≤ s.room) :
    Calls Tryz.prog 121 #[.pointer (some ⟨a, 0, none⟩), .int .i64 n] w (NewK w a g s (2)) := by
  obtain ⟨i0, hi, hz0, hz1, hz2⟩ := info_parts Tryz.infoSpF
  have HT := Lib.hid (takeY h (2) hr)
  have t1 : ¬ (n : Int) < 1 := by omega
  have t2 : ¬ 32 < (n : Int) := by omega
  clear h hr
  go_enter Tryz.func121, Tryz.ntmps121
  go_wp2_with fail
  refine HT.out.mono ?_
  rintro en w1 ⟨rfl, k1, t1'⟩
  have H1 := Lib.hid (And.intro k1 t1')
  clear k1 t1' HT
  go_wp2_with (refine wpList_make_full _ rfl _ _ 74 rfl w1.heap.size 44 i0 (.agg #[.int .i64 0, .int .i64 0, .int .i64 0, .int .i64 0]) 4 Tryz.underlying74 hi hz0 hz1 .i64 .i64 n n n rfl rfl rfl rfl ?b2 ?b3 (Nat.le_refl _) ?_)
  case b2 => rw [hz2]; omega
  case b3 => unfold maxLen; omega
  intro w2 hown hg
  have t2' : Turns [] w1 w2 := Turns.of_below ((Below.refl w1.heap.size w1).grown hg (Nat.le_refl _) (fun j hj => by cases hj))
  have H2 := Lib.hid t2'
  clear hown hg t2'
  go_wp2
  go_ret2
  have k2 := H1.out.1.turns H2.out (by simp) (by simp)
  have s1 := H1.out.2.size
  have s2 := H2.out.size
  exact ⟨w2.heap.size, _, rfl, by omega, by simp, k2.turns (S := []) ((Turns.refl _ _).alloc _) (by simp) (by simp), takeS_more s (2), ((H1.out.2.mono (by simp)).trans (H2.out.mono (by simp))).alloc _⟩
set_option maxRecDepth 100000 in
set_option maxHeartbeats 1000000 in
theorem mcsNew {w : World} {a g : Nat} {s : Ar} (h : ArIs w a g s) (n : Nat) (h1 : 1 ≤ n) (h2 : n ≤ 32) (hr : s.W.length + (1 + 2 * n) ≤ s.room) :
    Calls Tryz.prog 123 #[.pointer (some ⟨a, 0, none⟩), .int .i64 n] w (NewK w a g s (1 + 2 * n)) := by
  obtain ⟨i0, hi, hz0, hz1, hz2⟩ := info_parts Tryz.infoSpF
  have HT := Lib.hid (takeY h (1 + 2 * n) hr)
  have t1 : ¬ (n : Int) < 1 := by omega
  have t2 : ¬ 32 < (n : Int) := by omega
  have x1 : IntKind.i64.wrap (2 * (n : Int)) = 2 * (n : Int) := IntWalk.i64_in _ (by omega)
  have x2 : IntKind.i64.wrap (1 + 2 * (n : Int)) = ((1 + 2 * n : Nat) : Int) := by rw [IntWalk.i64_in _ (by omega)]; omega
  clear h hr
  go_enter Tryz.func123, Tryz.ntmps123
  go_wp2_with fail
  refine HT.out.mono ?_
  rintro en w1 ⟨rfl, k1, t1'⟩
  have H1 := Lib.hid (And.intro k1 t1')
  clear k1 t1' HT
  go_wp2_with (refine wpList_make_full _ rfl _ _ 74 rfl w1.heap.size 44 i0 (.agg #[.int .i64 0, .int .i64 0, .int .i64 0, .int .i64 0]) 4 Tryz.underlying74 hi hz0 hz1 .i64 .i64 n n n rfl rfl rfl rfl ?b2 ?b3 (Nat.le_refl _) ?_)
  case b2 => rw [hz2]; omega
  case b3 => unfold maxLen; omega
  intro w2 hown hg
  have t2' : Turns [] w1 w2 := Turns.of_below ((Below.refl w1.heap.size w1).grown hg (Nat.le_refl _) (fun j hj => by cases hj))
  have H2 := Lib.hid t2'
  clear hown hg t2'
  go_wp2
  go_ret2
  have k2 := H1.out.1.turns H2.out (by simp) (by simp)
  have s1 := H1.out.2.size
  have s2 := H2.out.size
  exact ⟨w2.heap.size, _, rfl, by omega, by simp, k2.turns (S := []) ((Turns.refl _ _).alloc _) (by simp) (by simp), takeS_more s (1 + 2 * n), ((H1.out.2.mono (by simp)).trans (H2.out.mono (by simp))).alloc _⟩
theorem placeF {w : World} {l : Nat} {va vs : Value} (nx : Nat) (m : Nat) (hm : 1 ≤ m) (hx : nx ≤ 100000) (h : Blk w l 186 #[va, .int .i64 nx, .int .i64 m, vs]) :
    Calls Tryz.prog 140 #[.pointer (some ⟨l, 0, none⟩), .int .i64 0] w fun e w' => e = .returned (.int .i64 ((nx : Int) + 1)) ∧ Below w.heap.size w w' := by
  have c1 : w.cell? ⟨l, 1, none⟩ = some (.int .i64 nx) := h.cell 1
  have c2 : w.cell? ⟨l, 2, none⟩ = some (.int .i64 m) := h.cell 2
  have t1 : ¬ (m : Int) = 0 := by omega
  have t2 : ((m : Int) == 0) = false := by simpa using t1
  have x1 : IntKind.i64.wrap ((nx : Int) + 1) = (nx : Int) + 1 := IntWalk.i64_in _ (by omega)
  clear h
  go_enter Tryz.func140, Tryz.ntmps140
  go_wp2_with fail
  go_quiet (fail)
  go_wp2
  go_ret
  exact ⟨rfl, below_drewN (Below.refl _ _) _⟩
theorem mayF (w : World) (n : Nat) (h1 : 1 ≤ n) (h2 : n ≤ 32) : Calls Tryz.prog 139 #[.int .i64 n] w fun e w' => e = .returned (.bool true) ∧ w = w' := by
  have t1 : (1 : Int) ≤ n := by omega
  have t2 : (n : Int) ≤ 32 := by omega
  go_enter Tryz.func139, Tryz.ntmps139
  go_wp2
  go_ret
  exact ⟨rfl, rfl⟩
set_option maxRecDepth 100000 in
set_option maxHeartbeats 1000000 in
theorem partedNew {w : World} {a g : Nat} {s : Ar} (h : ArIs w a g s) (n : Nat) (h1 : 1 ≤ n) (h2 : n ≤ 32) (m : Nat) (hm1 : 1 ≤ m) (hm2 : m ≤ 4) (hr : s.W.length + (1 + m) ≤ s.room) (ho : s.ops + 1 ≤ 1000000000) :
    Calls Tryz.prog 122 #[.pointer (some ⟨a, 0, none⟩), .int .i64 n, .int .i64 m] w (NewK w a g s (1 + m + 1)) := by
  obtain ⟨i0, hi, hz0, hz1, hz2⟩ := info_parts Tryz.infoSpF
  have HT := Lib.hid (takeY h (1 + m) hr)
  have x1 : IntKind.i64.wrap (1 + (m : Int)) = ((1 + m : Nat) : Int) := by rw [IntWalk.i64_in _ (by omega)]; omega
  have hlen : s.W.length ≤ 4096 := by have := h.le; have := h.room; omega
  have ha0 := h.blk.lt
  have hg0 := h.wds.lt
  have HO := Lib.hid ho
  clear h hr ho
  go_enter Tryz.func122, Tryz.ntmps122
  go_wp2_with fail
  refine (mayF _ n h1 h2).mono ?_
  rintro en w0 ⟨rfl, rfl⟩
  go_wp2_with fail
  refine (mayF _ m hm1 (by omega)).mono ?_
  rintro en w0 ⟨rfl, rfl⟩
  go_wp2_with fail
  refine HT.out.mono ?_
  rintro en w1 ⟨rfl, k1, t1'⟩
  have H1 := Lib.hid (And.intro k1 t1')
  clear k1 t1' HT
  go_wp2_with (refine wpList_make_full _ rfl _ _ 74 rfl w1.heap.size 44 i0 (.agg #[.int .i64 0, .int .i64 0, .int .i64 0, .int .i64 0]) 4 Tryz.underlying74 hi hz0 hz1 .i64 .i64 n n n rfl rfl rfl rfl ?b2 ?b3 (Nat.le_refl _) ?_)
  case b2 => rw [hz2]; omega
  case b3 => unfold maxLen; omega
  intro w2 hown hg
  have t2' : Turns [] w1 w2 := Turns.of_below ((Below.refl w1.heap.size w1).grown hg (Nat.le_refl _) (fun j hj => by cases hj))
  have H2 := Lib.hid t2'
  clear hown hg t2'
  go_upto_region 7 with fail
  obtain ⟨l, hl⟩ : ∃ l, l = w2.heap.size := ⟨_, rfl⟩
  obtain ⟨nx, hnx⟩ : ∃ x : Nat, x = s.W.length + 1 := ⟨_, rfl⟩
  have hnx2 : ((s.W.length : Int) + 1) = (nx : Int) := by omega
  obtain ⟨w3, hw3⟩ : ∃ W, W = w2.alloc (.cells #[.pointer (some ⟨a, 0, none⟩), .int .i64 nx, .int .i64 m, .slice (some ⟨w1.heap.size, 0, none⟩) n n] 186) := ⟨_, rfl⟩
  rw [hnx2, ← hw3, ← hl]
  have HB := Lib.hid (show Blk w3 l 186 #[.pointer (some ⟨a, 0, none⟩), .int .i64 nx, .int .i64 m, .slice (some ⟨w1.heap.size, 0, none⟩) n n] from by rw [hw3, hl]; exact Blk.new _ _ _)
  have HT3 := Lib.hid (show Turns [a] w w3 from by rw [hw3]; exact (H1.out.2.trans (H2.out.mono (by simp))).alloc _)
  have HA3 := Lib.hid (show ArIs w3 a g (takeS s (1 + m)) from by rw [hw3]; exact (H1.out.1.turns H2.out (by simp) (by simp)).turns (S := []) ((Turns.refl _ _).alloc _) (by simp) (by simp))
  have HL := Lib.hid (show w.heap.size ≤ l ∧ nx = s.W.length + 1 from by have := H1.out.2.size; have := H2.out.size; omega)
  clear hl hw3 hnx hnx2
  go_wp2_with fail
  refine (placeF nx m hm1 (by have := HL.out.2; omega) HB.out).mono ?_
  rintro en w4 ⟨rfl, b4⟩
  have HA4 := Lib.hid (And.intro (HA3.out.turns (Turns.of_below (S := []) b4) (by simp) (by simp)) b4)
  clear b4
  go_wp2_with fail
  refine (store_any HA4.out.1 ((nx : Int) + 1) 1 (by show s.ops + 1 ≤ _; have := HO.out; omega)).mono ?_
  rintro en w5 ⟨rfl, k5, t5⟩
  have H5 := Lib.hid (And.intro k5 t5)
  clear k5 t5
  go_wp2
  go_ret2
  have s3 := HT3.out.size
  have s4 := HA4.out.2.size
  have s5 := H5.out.2.size
  have hb := HB.out.lt
  exact ⟨l, _, rfl, HL.out.1, by omega, H5.out.1, storeS_more _ _ _ (takeS_more s (1 + m)) _ _ (by have := HL.out.2; omega), ((HT3.out.mono (by simp)).trans (Turns.of_below HA4.out.2)).trans H5.out.2⟩
set_option maxRecDepth 100000 in
set_option maxHeartbeats 2000000 in
theorem clhNew {w : World} {a g : Nat} {s : Ar} (h : ArIs w a g s) (n : Nat) (h1 : 1 ≤ n) (h2 : n ≤ 32) (hr : s.W.length + (n + 2) ≤ s.room) (ho : s.ops + 1 ≤ 1000000000) :
    Calls Tryz.prog 124 #[.pointer (some ⟨a, 0, none⟩), .int .i64 n] w (NewK w a g s (n + 2 + 1)) := by
  obtain ⟨i0, hi, hz0, hz1, hz2⟩ := info_parts Tryz.infoSpF
  have HI := Lib.hid (And.intro hi (And.intro hz0 (And.intro hz1 hz2)))
  have HT := Lib.hid (takeY h (n + 2) hr)
  have t1 : ¬ (n : Int) < 1 := by omega
  have t2 : ¬ 32 < (n : Int) := by omega
  have x1 : IntKind.i64.wrap ((n : Int) + 2) = ((n + 2 : Nat) : Int) := by rw [IntWalk.i64_in _ (by omega)]; omega
  have x2 : IntKind.i64.wrap ((n : Int) + 1) = ((n + 1 : Nat) : Int) := by rw [IntWalk.i64_in _ (by omega)]; omega
  have hlen : s.W.length ≤ 4096 := by have := h.le; have := h.room; omega
  have HG := Lib.hid (And.intro h.blk.lt h.wds.lt)
  have HO := Lib.hid ho
  clear h hr ho hi hz0 hz1 hz2
  go_enter Tryz.func124, Tryz.ntmps124
  go_wp2_with fail
  refine HT.out.mono ?_
  rintro en w1 ⟨rfl, k1, t1'⟩
  have H1 := Lib.hid (And.intro k1 t1')
  clear k1 t1' HT
  go_upto_region 7 with fail
  obtain ⟨l, hl⟩ : ∃ l, l = w1.heap.size := ⟨_, rfl⟩
  obtain ⟨nx, hnx⟩ : ∃ x : Nat, x = s.W.length + 1 := ⟨_, rfl⟩
  have hnx2 : ((s.W.length : Int) + 1) = (nx : Int) := by omega
  obtain ⟨w3, hw3⟩ : ∃ W, W = w1.alloc (.cells #[.pointer (some ⟨a, 0, none⟩), .int .i64 nx, .slice none 0 0] 190) := ⟨_, rfl⟩
  rw [hnx2, ← hw3, ← hl]
  have HB := Lib.hid (show Blk w3 l 190 #[.pointer (some ⟨a, 0, none⟩), .int .i64 nx, .slice none 0 0] from by rw [hw3, hl]; exact Blk.new _ _ _)
  have HT3 := Lib.hid (show Turns [a] w w3 from by rw [hw3]; exact H1.out.2.alloc _)
  have HA3 := Lib.hid (show ArIs w3 a g (takeS s (n + 2)) from by rw [hw3]; exact H1.out.1.turns (S := []) ((Turns.refl _ _).alloc _) (by simp) (by simp))
  have HL := Lib.hid (show w.heap.size ≤ l ∧ nx = s.W.length + 1 ∧ w3.heap.size = l + 1 from by have := H1.out.2.size; rw [hw3]; simp; omega)
  clear hl hw3 hnx hnx2
  go_wp2
  go_loopw [31] (fun i wr => ∃ (k : Nat) (v : Value) (xs : List Value), i = .int .i64 k ∧ k ≤ n ∧ Blk wr l 190 #[.pointer (some ⟨a, 0, none⟩), .int .i64 nx, v] ∧ wr.ownsRow w3.heap.size 44 4 v k xs ∧ Turns [l] w3 wr) (fun i _ => n - (intOf i).toNat)
  case atStart => exact ⟨0, _, [], rfl, by omega, HB.out, World.ownsRow_nil _ _ _ _, Turns.refl _ _⟩
  case round =>
    obtain ⟨k, v, xs, rfl, hk, hb, hown, ht⟩ := hrel
    obtain ⟨wo, rfl⟩ : ∃ wo : World, wo = wr := ⟨_, rfl⟩
    by_cases hlt : k < n
    · obtain ⟨A, cap, rfl⟩ := own_form hown
      have c2 : wo.cell? ⟨l, 2, none⟩ = some (.slice A k cap) := hb.cell 2
      have hll := hb.lt
      have hs3 := ht.size
      have H := Lib.hid (And.intro hb (And.intro hown ht))
      have hlow : (Value.slice A k cap).ownBlock ≠ some l := fun e => by have := (hown.lt l e).1; have := HL.out.2.2; omega
      clear hb hown ht
      go_wp2_with (at_builtin; refine wpList_append_lies _ rfl _ _ 74 rfl w3.heap.size 44 i0 (.agg #[.int .i64 0, .int .i64 0, .int .i64 0, .int .i64 0]) 4 32 Tryz.underlying74 HI.out.1 HI.out.2.1 HI.out.2.2.1 HI.out.2.2.2 rfl (by decide) _ _ _ rfl (H.out.2.1.alloc _) ⟨wo.heap.size, 0, none⟩ 1 1 [.int .i64 0, .int .i64 ((k : Int) + 1), .int .i64 0, .int .i64 0] rfl rfl (cells_newF _ _ _) (by simp [Value.oneCell']) (by decide) ?c3 ?c4 ?c5 _ rfl ?_)
      case c3 => unfold maxLen; omega
      case c4 => omega
      case c5 => simp; omega
      intro g3 cap3 w7 h3 hg3 hl3 hlt3
      have bl7 := (H.out.1.alloc (.cells #[.int .i64 0, .int .i64 ((k : Int) + 1), .int .i64 0, .int .i64 0] 44)).grown hg3 (fun e => hlow e.symm)
      have c27 : w7.cell? ⟨l, 2, none⟩ = some (.slice A k cap) := bl7.cell 2
      have z27 := bl7.free 2
      have ts : Turns [l] w7 (w7.setCell ⟨l, 2, none⟩ (.slice (some ⟨g3, 0, none⟩) (k + 1) cap3)) := (Turns.refl _ _).setCell (.inl (by simp)) _
      have HRR := Lib.hid (show Blk (w7.setCell ⟨l, 2, none⟩ (.slice (some ⟨g3, 0, none⟩) (k + 1) cap3)) l 190 #[.pointer (some ⟨a, 0, none⟩), .int .i64 nx, .slice (some ⟨g3, 0, none⟩) (k + 1) cap3] ∧ (w7.setCell ⟨l, 2, none⟩ (.slice (some ⟨g3, 0, none⟩) (k + 1) cap3)).ownsRow w3.heap.size 44 4 (.slice (some ⟨g3, 0, none⟩) (k + 1) cap3) (k + 1) (xs ++ [.int .i64 0, .int .i64 ((k : Int) + 1), .int .i64 0, .int .i64 0]) ∧ Turns [l] w3 (w7.setCell ⟨l, 2, none⟩ (.slice (some ⟨g3, 0, none⟩) (k + 1) cap3)) from by
        have hg35 := (h3.lt g3 rfl).1
        have hl3' := HL.out.2.2
        refine ⟨bl7.set_ 2 _, Turns.own h3 ts (fun x hx => by injection hx with hx; subst hx; simp; omega), ?_⟩
        have t37 : Turns [l] w3 w7 := ⟨hg3.os.trans H.out.2.2.os, hg3.tape.trans H.out.2.2.tape, hg3.output.trans H.out.2.2.output, by have := hg3.size; simp at this; omega, fun i hi hn => by
          have h9 := hg3.block i (by simp; omega) (fun e => by have := (H.out.2.1.lt i e.symm).1; omega)
          rw [h9]
          have h8 := ((Turns.refl [l] wo).alloc (.cells #[.int .i64 0, .int .i64 ((k : Int) + 1), .int .i64 0, .int .i64 0] 44)).block i (by omega) hn
          rw [h8]
          exact H.out.2.2.block i hi hn⟩
        exact t37.trans ts)
      clear h3 hg3 hl3 bl7 H
      go_wp2
      go_roundw
      case rel => exact ⟨k + 1, _, _, by go_num, by omega, HRR.out.1, HRR.out.2.1, HRR.out.2.2⟩
      case measure => simp [intOf]; omega
    · obtain rfl : k = n := by omega
      have H := Lib.hid (And.intro hb ht)
      clear hb hown ht
      have HA4 := Lib.hid (HA3.out.turns H.out.2 (by have := HG.out; have := HL.out; simp; omega) (by have := HG.out; have := HL.out; simp; omega))
      go_wp2_with fail
      refine (store_any HA4.out (nx : Int) ((k + 1 : Nat) : Int) (by show s.ops + 1 ≤ _; have := HO.out; omega)).mono ?_
      rintro en w5 ⟨rfl, k5, t5⟩
      have H5 := Lib.hid (And.intro k5 t5)
      clear k5 t5
      go_wp2
      go_ret2
      have s3 := HT3.out.size
      have s5 := H5.out.2.size
      have hb := H.out.1.lt
      have s6 := H.out.2.size
      refine ⟨l, _, rfl, HL.out.1, by omega, H5.out.1, storeS_more _ _ _ (takeS_more s (k + 2)) _ _ (by have := HL.out.2.1; omega), ?_⟩
      have t9 : Turns [a, g, l] w w5 := ((HT3.out.mono (by simp)).trans (H.out.2.mono (by simp))).trans (H5.out.2.mono (by simp))
      exact t9.fresh fun i hi => by have := HL.out.1; simp at hi ⊢; omega
end Go.Proofs.YtbkckbphkfakkaaGreat
end
section
/- Layer 20 (flat): a new flat lock of any kind. -/
namespace Go.Proofs.YtbkckbphkfakkaaGreat
open Go.RowKit

theorem NewK.le {w : World} {a g : Nat} {s : Ar} {k j : Nat} {e : Ending} {w' : World} (h : NewK w a g s k e w') (hj : k ≤ j) : NewK w a g s j e w' := by
  obtain ⟨l, s', h1, h2, h3, h4, h5, h6⟩ := h
  exact ⟨l, s', h1, h2, h3, h4, h5.le hj, h6⟩
set_option maxRecDepth 100000 in
set_option maxHeartbeats 4000000 in
theorem flatNew {w : World} {a g : Nat} {s : Ar} (h : ArIs w a g s) (kind : Int) (hk1 : 1 ≤ kind) (hk5 : kind ≤ 5) (n : Nat) (h1 : 1 ≤ n) (h2 : n ≤ 32) (m : Nat) (hm1 : 1 ≤ m) (hm2 : m ≤ 4) (hr : s.W.length + 65 ≤ s.room) (ho : s.ops + 1 ≤ 1000000000) :
    Calls Tryz.prog 92 #[.pointer (some ⟨a, 0, none⟩), .int .i64 kind, .int .i64 n, .int .i64 m] w (NewK w a g s 66) := by
  have H1 := Lib.hid (tasNew h n h1 h2 m hm1 hm2 (by omega))
  have H2 := Lib.hid (ticketNew h n h1 h2 (by omega))
  have H3 := Lib.hid (partedNew h n h1 h2 m hm1 hm2 (by omega) ho)
  have H4 := Lib.hid (mcsNew h n h1 h2 (by omega))
  have H5 := Lib.hid (clhNew h n h1 h2 (by omega) ho)
  have hn : kind = 1 ∨ kind = 2 ∨ kind = 3 ∨ kind = 4 ∨ kind = 5 := by omega
  clear h hr ho hk1 hk5
  rcases hn with rfl | rfl | rfl | rfl | rfl
  · go_enter Tryz.func92, Tryz.ntmps92
    go_wp2_with fail
    refine H1.out.mono ?_
    rintro en w1 ⟨l, s', rfl, e1, e2, e3, e4, e5⟩
    have HE := Lib.hid (And.intro e1 (And.intro e2 (And.intro e3 (And.intro e4 e5))))
    clear e1 e2 e3 e4 e5
    go_wp2
    go_ret2
    obtain ⟨e1, e2, e3, e4, e5⟩ := HE.out
    exact ⟨w1.heap.size, s', rfl, by omega, by simp, e3.turns (S := []) ((Turns.refl _ _).alloc _) (by simp) (by simp), e4.le (by omega), e5.alloc _⟩
  · go_enter Tryz.func92, Tryz.ntmps92
    go_wp2_with fail
    refine H2.out.mono ?_
    rintro en w1 ⟨l, s', rfl, e1, e2, e3, e4, e5⟩
    have HE := Lib.hid (And.intro e1 (And.intro e2 (And.intro e3 (And.intro e4 e5))))
    clear e1 e2 e3 e4 e5
    go_wp2
    go_ret2
    obtain ⟨e1, e2, e3, e4, e5⟩ := HE.out
    exact ⟨w1.heap.size, s', rfl, by omega, by simp, e3.turns (S := []) ((Turns.refl _ _).alloc _) (by simp) (by simp), e4.le (by omega), e5.alloc _⟩
  · go_enter Tryz.func92, Tryz.ntmps92
    go_wp2_with fail
    refine H3.out.mono ?_
    rintro en w1 ⟨l, s', rfl, e1, e2, e3, e4, e5⟩
    have HE := Lib.hid (And.intro e1 (And.intro e2 (And.intro e3 (And.intro e4 e5))))
    clear e1 e2 e3 e4 e5
    go_wp2
    go_ret2
    obtain ⟨e1, e2, e3, e4, e5⟩ := HE.out
    exact ⟨w1.heap.size, s', rfl, by omega, by simp, e3.turns (S := []) ((Turns.refl _ _).alloc _) (by simp) (by simp), e4.le (by omega), e5.alloc _⟩
  · go_enter Tryz.func92, Tryz.ntmps92
    go_wp2_with fail
    refine H4.out.mono ?_
    rintro en w1 ⟨l, s', rfl, e1, e2, e3, e4, e5⟩
    have HE := Lib.hid (And.intro e1 (And.intro e2 (And.intro e3 (And.intro e4 e5))))
    clear e1 e2 e3 e4 e5
    go_wp2
    go_ret2
    obtain ⟨e1, e2, e3, e4, e5⟩ := HE.out
    exact ⟨w1.heap.size, s', rfl, by omega, by simp, e3.turns (S := []) ((Turns.refl _ _).alloc _) (by simp) (by simp), e4.le (by omega), e5.alloc _⟩
  · go_enter Tryz.func92, Tryz.ntmps92
    go_wp2_with fail
    refine H5.out.mono ?_
    rintro en w1 ⟨l, s', rfl, e1, e2, e3, e4, e5⟩
    have HE := Lib.hid (And.intro e1 (And.intro e2 (And.intro e3 (And.intro e4 e5))))
    clear e1 e2 e3 e4 e5
    go_wp2
    go_ret2
    obtain ⟨e1, e2, e3, e4, e5⟩ := HE.out
    exact ⟨w1.heap.size, s', rfl, by omega, by simp, e3.turns (S := []) ((Turns.refl _ _).alloc _) (by simp) (by simp), e4.le (by omega), e5.alloc _⟩
end Go.Proofs.YtbkckbphkfakkaaGreat
end
section
/- Layer 6: trees of places as lists of parents; plain data, no program in sight. -/
namespace Go.Proofs.YtbkckbphkfakkaaGreat
open Go.RowKit

def okP (P : List Int) (v : Nat) : Bool := decide ((v = 0 → P.getD v 0 = -1) ∧ (0 < v → 0 ≤ P.getD v 0 ∧ P.getD v 0 < v))
def treeB (P : List Int) : Bool := (List.range P.length).all (okP P)
def leafB (P : List Int) (v : Int) : Bool := decide (0 ≤ v ∧ v < P.length ∧ v ∉ P)
def leavesTo (P : List Int) (k : Nat) : List Int := ((List.range k).map Int.ofNat).filter (leafB P)
def leavesL (P : List Int) : List Int := leavesTo P P.length
def dep (P : List Int) : Nat → Int → Nat
  | 0, _ => 0
  | f + 1, v => if 0 ≤ v ∧ v < P.length then dep P f (P.getD v.toNat 0) + 1 else 0
def depL (P : List Int) (v : Int) : Nat := dep P P.length v
def evenB (P : List Int) : Bool := (leavesL P).all fun v => decide (depL P v = depL P ((leavesL P).headD 0) ∧ depL P v ≤ 5)
def thrB (P T : List Int) : Bool := T.all (leafB P)
def manyB (P T : List Int) : Bool := decide (P.length < 1 ∨ 32 < P.length ∨ T.length < 1 ∨ 32 < T.length)
def chkT (P T : List Int) : Int := if manyB P T then 8 else if treeB P = false then 9 else if evenB P = false then 9 else if thrB P T = false then 4 else 0

theorem getD_of {P : List Int} {k : Nat} {p : Int} (h : P[k]? = some p) : P.getD k 0 = p := by rw [List.getD_eq_getElem?_getD, h]; rfl
theorem range_all_succ (f : Nat → Bool) (k : Nat) : (List.range (k + 1)).all f = ((List.range k).all f && f k) := by rw [List.range_succ, List.all_append]; simp
theorem tree_at {P : List Int} (h : treeB P = true) {k : Nat} {p : Int} (hk : P[k]? = some p) : (k = 0 → p = -1) ∧ (0 < k → 0 ≤ p ∧ p < k) := by
  have hlt := (List.getElem?_eq_some_iff.1 hk).1
  unfold treeB at h
  rw [List.all_eq_true] at h
  have := h k (List.mem_range.2 hlt)
  simp only [okP, decide_eq_true_eq, getD_of hk] at this
  exact this
theorem tree_lt {P : List Int} (h : treeB P = true) {k : Nat} {p : Int} (hk : P[k]? = some p) : -1 ≤ p ∧ p < k := by
  have := tree_at h hk
  rcases Nat.eq_zero_or_pos k with h0 | h0
  · have := this.1 h0; omega
  · have := this.2 h0; omega
/-- enough fuel is enough -/
theorem dep_fuel {P : List Int} (h : treeB P = true) : ∀ (f : Nat) (v : Int), v < f → ∀ g : Nat, v < g → dep P f v = dep P g v
  | 0, v, hv, g, hg => by
    cases g with
    | zero => rfl
    | succ g => unfold dep; rw [if_neg (by omega)]
  | f + 1, v, hv, g, hg => by
    cases g with
    | zero => unfold dep; rw [if_neg (by omega)]
    | succ g =>
      unfold dep
      split
      · rename_i hb
        obtain ⟨p, hp⟩ := getElem?_lt (show v.toNat < P.length by omega)
        have := tree_lt h hp
        rw [getD_of hp, dep_fuel h f p (by omega) g (by omega)]
      · rfl
theorem depL_step {P : List Int} (h : treeB P = true) {k : Nat} {p : Int} (hk : P[k]? = some p) : depL P k = if 0 ≤ p then depL P p + 1 else 1 := by
  have hlt := (List.getElem?_eq_some_iff.1 hk).1
  have hp := tree_lt h hk
  unfold depL
  rw [dep_fuel h P.length k (by omega) (k + 1) (by omega)]
  show (if 0 ≤ (k : Int) ∧ (k : Int) < P.length then dep P k (P.getD (k : Int).toNat 0) + 1 else 0) = _
  rw [if_pos (by omega), Int.toNat_natCast, getD_of hk]
  split
  · rw [dep_fuel h k p (by omega) P.length (by omega)]
  · have : dep P k p = 0 := by
      cases k with
      | zero => rfl
      | succ k => unfold dep; rw [if_neg (by omega)]
    omega
theorem dep_le (P : List Int) : ∀ (f : Nat) (v : Int), dep P f v ≤ f
  | 0, _ => Nat.le_refl _
  | f + 1, v => by
    unfold dep
    split
    · have := dep_le P f (P.getD v.toNat 0); omega
    · omega
theorem depL_le (P : List Int) (v : Int) : depL P v ≤ P.length := dep_le P _ _

theorem leavesTo_succ (P : List Int) (k : Nat) : leavesTo P (k + 1) = if leafB P k then leavesTo P k ++ [(k : Int)] else leavesTo P k := by
  unfold leavesTo
  rw [List.range_succ, List.map_append, List.filter_append]
  show _ ++ List.filter (leafB P) [(k : Int)] = _
  by_cases h : leafB P k = true
  · simp [h]
  · simp [h]
theorem leavesTo_len (P : List Int) : ∀ k, (leavesTo P k).length ≤ k := fun k => by
  unfold leavesTo
  have := List.length_filter_le (leafB P) ((List.range k).map Int.ofNat)
  simpa using this
theorem mem_leaves {P : List Int} {v : Int} : v ∈ leavesL P ↔ leafB P v = true := by
  unfold leavesL leavesTo
  rw [List.mem_filter]
  constructor
  · exact fun h => h.2
  · intro h
    refine ⟨?_, h⟩
    simp only [leafB, decide_eq_true_eq] at h
    rw [List.mem_map]
    exact ⟨v.toNat, List.mem_range.2 (by omega), by show ((v.toNat : Nat) : Int) = v; omega⟩
theorem mem_take {P : List Int} {k : Nat} {p : Int} (hk : P[k]? = some p) (x : Int) : x ∈ P.take (k + 1) ↔ x ∈ P.take k ∨ x = p := by
  rw [take_succ_of hk]; simp
/-- a list over a range, one place written -/
theorem range_set {α : Type} (n i : Nat) (f g : Nat → α) (u : α) (hi : g i = u) (ho : ∀ j, j ≠ i → g j = f j) : ((List.range n).map f).set i u = (List.range n).map g := by
  refine List.ext_getElem? fun j => ?_
  rw [List.getElem?_set]
  by_cases hji : i = j
  · subst hji
    rw [if_pos rfl]
    by_cases hin : i < n
    · simp [hin, hi]
    · simp [hin]
  · rw [if_neg hji]
    by_cases hjn : j < n
    · simp [hjn, ho j (fun h => hji h.symm)]
    · simp [hjn]
theorem range_get {α : Type} (n i : Nat) (f : Nat → α) (h : i < n) : ((List.range n).map f)[i]? = some (f i) := by simp [h]
end Go.Proofs.YtbkckbphkfakkaaGreat
end
section
/- slices.Index, Contains, IndexFunc (at two closures) and ContainsFunc over ints (written by wip/gen_top2.py). -/
namespace Go.Proofs.YtbkckbphkfakkaaGreat
open Go.RowKit

def idxI (l : List Int) (x : Int) : Int := if x ∈ l then ((l.idxOf x : Nat) : Int) else -1
theorem idx_hit {l : List Int} {k : Nat} {x : Int} (h : l[k]? = some x) (hn : x ∉ l.take k) : idxI l x = k := by
  unfold idxI
  have hm : x ∈ l := List.mem_of_getElem? h
  obtain ⟨hk, he⟩ := List.getElem?_eq_some_iff.1 h
  rw [if_pos hm]
  have hl : l = l.take k ++ (x :: l.drop (k + 1)) := by
    conv => lhs; rw [← List.take_append_drop k l, List.drop_eq_getElem_cons hk, he]
  have : l.idxOf x = k := by
    rw [hl, List.idxOf_append]
    rw [if_neg hn, List.idxOf_cons_self]
    simp; omega
  rw [this]
theorem idx_none {l : List Int} {x : Int} (hn : x ∉ l) : idxI l x = -1 := by unfold idxI; rw [if_neg hn]
theorem idx_nonneg (l : List Int) (x : Int) : (0 ≤ idxI l x ↔ x ∈ l) ∧ idxI l x < l.length ∧ -1 ≤ idxI l x := by
  unfold idxI
  split
  · rename_i h
    have := List.idxOf_lt_length_of_mem h
    exact ⟨by simp [h], by omega, by omega⟩
  · rename_i h
    exact ⟨by simp [h], by omega, by omega⟩
def fidx (p : Int → Bool) (l : List Int) : Int := match l.findIdx? p with | some i => (i : Int) | none => -1
theorem fidx_hit {p : Int → Bool} {l : List Int} {k : Nat} {x : Int} (h : l[k]? = some x) (hp : p x = true) (hn : ∀ y ∈ l.take k, p y = false) : fidx p l = k := by
  obtain ⟨hk, he⟩ := List.getElem?_eq_some_iff.1 h
  have : l.findIdx? p = some k := by
    rw [List.findIdx?_eq_some_iff_getElem]
    refine ⟨hk, by rw [he]; exact hp, fun j hj => ?_⟩
    have := hn l[j] (List.mem_take_iff_getElem.2 ⟨j, by omega, rfl⟩)
    simp [this]
  unfold fidx
  rw [this]
theorem fidx_none {p : Int → Bool} {l : List Int} (hn : ∀ y ∈ l, p y = false) : fidx p l = -1 := by
  have : l.findIdx? p = none := by rw [List.findIdx?_eq_none_iff]; exact hn
  unfold fidx
  rw [this]
theorem fidx_nonneg (p : Int → Bool) (l : List Int) : (decide (0 ≤ fidx p l) = l.any p) ∧ fidx p l < l.length ∧ -1 ≤ fidx p l := by
  unfold fidx
  cases h : l.findIdx? p with
  | none =>
    rw [List.findIdx?_eq_none_iff] at h
    refine ⟨?_, by show (-1 : Int) < _; omega, by show (-1 : Int) ≤ -1; omega⟩
    symm
    show _ = decide ((0 : Int) ≤ -1)
    rw [show decide ((0 : Int) ≤ -1) = false from rfl, List.any_eq_false]
    intro x hx hp
    rw [h x hx] at hp; cases hp
  | some i =>
    rw [List.findIdx?_eq_some_iff_getElem] at h
    obtain ⟨hi, hp, _⟩ := h
    refine ⟨?_, by show (i : Int) < _; omega, by show (-1 : Int) ≤ (i : Int); omega⟩
    rw [decide_eq_true (show (0 : Int) ≤ (i : Int) by omega)]
    symm
    rw [List.any_eq_true]
    exact ⟨l[i], List.getElem_mem hi, hp⟩

set_option maxHeartbeats 1000000 in
theorem index_any (w : World) (v : Value) (l : List Int) (x : Int) (h : RdL w v 1 encI l) :
    Calls Tryz.prog 128 #[v, .int .i64 x] w fun e w' => e = .returned (.int .i64 (idxI l x)) ∧ w = w' := by
  obtain ⟨A, cap, rfl, l1, l2, hr⟩ := h
  have HR := Lib.hid hr
  clear hr
  go_enter Tryz.func128, Tryz.ntmps128
  go_wp2
  go_loop [8] (fun i => ∃ k : Nat, i = .int .i64 k ∧ k ≤ l.length ∧ x ∉ l.take k) (fun i => l.length - (intOf i).toNat)
  case atStart => exact ⟨0, rfl, by omega, by simp⟩
  case round =>
    obtain ⟨k, rfl, hk, hn⟩ := hrel
    by_cases hlt : k < l.length
    · obtain ⟨bl, off, rfl, hbl, hc⟩ := HR.out (by omega)
      obtain ⟨y, hy⟩ := getElem?_lt hlt
      have c0 := hc k y hy 0 _ rfl
      simp only [Nat.add_zero, Nat.mul_one] at c0
      have HY := Lib.hid (And.intro hy hn)
      clear hc hy hn
      cases hxy : (x == y)
      · have hne : Hid (x ∉ l.take (k + 1)) := Lib.hid (by
          rw [mem_take HY.out.1]
          rintro (h | h)
          · exact HY.out.2 h
          · rw [h] at hxy; simp at hxy)
        go_wp2
        go_round
        case rel => exact ⟨k + 1, by go_num, by omega, hne.out⟩
        case measure => simp [intOf]; omega
      · have hid : Hid (idxI l x = k) := Lib.hid (idx_hit (by rw [beq_iff_eq.1 hxy]; exact HY.out.1) HY.out.2)
        go_wp2
        go_ret
        exact ⟨ret_int hid.out.symm, rfl⟩
    · obtain rfl : k = l.length := by omega
      rw [List.take_length] at hn
      have hid : Hid (idxI l x = -1) := Lib.hid (idx_none hn)
      clear hn
      go_wp2
      go_ret
      exact ⟨ret_int hid.out.symm, rfl⟩
theorem contains_any (w : World) (v : Value) (l : List Int) (x : Int) (h : RdL w v 1 encI l) :
    Calls Tryz.prog 118 #[v, .int .i64 x] w fun e w' => e = .returned (.bool (decide (x ∈ l))) ∧ w = w' := by
  have HI := Lib.hid (index_any w v l x h)
  have hb : decide (x ∈ l) = decide (0 ≤ idxI l x) := decide_eq_decide.2 (idx_nonneg l x).1.symm
  have HB := Lib.hid hb
  clear h hb
  go_enter Tryz.func118, Tryz.ntmps118
  go_wp2_with (go_at_call 128; refine HI.out.mono ?_; rintro e w' ⟨rfl, rfl⟩)
  go_ret
  exact ⟨ret_bool HB.out.symm, rfl⟩

theorem chkC_any (w : World) (b : Nat) (v : Value) (l : List Int) (x : Int) (hc : w.cell? ⟨b, 0, none⟩ = some v) (h : RdL w v 1 encI l) :
    Calls Tryz.prog 117 #[.int .i64 x, .pointer (some ⟨b, 0, none⟩)] w fun e w' => e = .returned (.bool (!decide (x ∈ l))) ∧ w = w' := by
  have HI := Lib.hid (contains_any w v l x h)
  clear h
  go_enter Tryz.func117, Tryz.ntmps117
  go_wp2_with (go_at_call 118; refine HI.out.mono ?_; rintro e w' ⟨rfl, rfl⟩)
  go_ret
  exact ⟨ret_bool (by simp), rfl⟩
set_option maxHeartbeats 1000000 in
theorem chkF_any (w : World) (b : Nat) (ve v : Value) (en l : List Int) (hcell : w.cell? ⟨b, 0, none⟩ = some ve) (hen : RdL w ve 1 encI en) (h : RdL w v 1 encI l) :
    Calls Tryz.prog 138 #[v, .func (.func 117) #[] #[.pointer (some ⟨b, 0, none⟩)]] w fun e w' => e = .returned (.int .i64 (fidx (fun x => !decide (x ∈ en)) l)) ∧ w = w' := by
  obtain ⟨A, cap, rfl, l1, l2, hr⟩ := h
  have HR := Lib.hid hr
  have HE := Lib.hid (And.intro hcell hen)
  clear hr hcell hen
  go_enter Tryz.func138, Tryz.ntmps138
  go_wp2
  go_loop [8] (fun i => ∃ k : Nat, i = .int .i64 k ∧ k ≤ l.length ∧ ∀ x ∈ l.take k, (!decide (x ∈ en)) = false) (fun i => l.length - (intOf i).toNat)
  case atStart => exact ⟨0, rfl, by omega, by simp⟩
  case round =>
    obtain ⟨k, rfl, hk, hn⟩ := hrel
    by_cases hlt : k < l.length
    · obtain ⟨bl, off, rfl, hbl, hc⟩ := HR.out (by omega)
      obtain ⟨y, hy⟩ := getElem?_lt hlt
      have c0 := hc k y hy 0 _ rfl
      simp only [Nat.add_zero, Nat.mul_one] at c0
      have HY := Lib.hid (And.intro hy hn)
      clear hc hy hn
      have HC := Lib.hid (chkC_any w b ve en y HE.out.1 HE.out.2)
      cases hp : (!decide (y ∈ en))
      · have hne : Hid (∀ x ∈ l.take (k + 1), (!decide (x ∈ en)) = false) := Lib.hid (by
          intro x hx
          rcases (mem_take HY.out.1 x).1 hx with h | h
          · exact HY.out.2 x h
          · rw [h]; exact hp)
        rw [hp] at HC
        clear hp
        go_wp2_with (go_at_call 117; refine HC.out.mono ?_; rintro e w' ⟨rfl, rfl⟩)
        go_round
        case rel => exact ⟨k + 1, by go_num, by omega, hne.out⟩
        case measure => simp [intOf]; omega
      · have hid : Hid (fidx (fun x => !decide (x ∈ en)) l = k) := Lib.hid (fidx_hit HY.out.1 hp HY.out.2)
        rw [hp] at HC
        clear hp
        go_wp2_with (go_at_call 117; refine HC.out.mono ?_; rintro e w' ⟨rfl, rfl⟩)
        go_ret
        exact ⟨ret_int hid.out.symm, rfl⟩
    · obtain rfl : k = l.length := by omega
      rw [List.take_length] at hn
      have hid : Hid (fidx (fun x => !decide (x ∈ en)) l = -1) := Lib.hid (fidx_none hn)
      clear hn
      go_wp2
      go_ret
      exact ⟨ret_int hid.out.symm, rfl⟩

theorem containsFunc_any (w : World) (b : Nat) (ve v : Value) (en l : List Int) (hcell : w.cell? ⟨b, 0, none⟩ = some ve) (hen : RdL w ve 1 encI en) (h : RdL w v 1 encI l) :
    Calls Tryz.prog 116 #[v, .func (.func 117) #[] #[.pointer (some ⟨b, 0, none⟩)]] w fun e w' => e = .returned (.bool (l.any fun x => !decide (x ∈ en))) ∧ w = w' := by
  have HI := Lib.hid (chkF_any w b ve v en l hcell hen h)
  have HB := Lib.hid (fidx_nonneg (fun x => !decide (x ∈ en)) l).1
  clear h hcell hen
  go_enter Tryz.func116, Tryz.ntmps116
  go_wp2_with (go_at_call 138; refine HI.out.mono ?_; rintro e w' ⟨rfl, rfl⟩)
  go_ret
  exact ⟨ret_bool HB.out, rfl⟩
end Go.Proofs.YtbkckbphkfakkaaGreat
end
