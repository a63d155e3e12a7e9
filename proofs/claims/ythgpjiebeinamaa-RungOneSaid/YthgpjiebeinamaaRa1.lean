/- Layer 1: the document's arena: how it lies in memory, and its ops. -/
import Derived.Test.YthgpjiebeinamaaAr2
namespace Go.Proofs.Ythgpjiebeinamaa
open Go.RowKit

structure RaIs (w : World) (b gw cap : Nat) (s : Ar) : Prop where
  blk : Blk w b 55 #[.int .i64 s.room, .slice (some ⟨gw, 0, none⟩) s.W.length cap, .int .i64 s.ops, .int .i64 s.k, .int .i64 s.at_, .bool s.wr]
  wds : w.ownsRow 0 3 1 (.slice (some ⟨gw, 0, none⟩) s.W.length cap) s.W.length (s.W.map (Value.int .i64))
  ne : b ≠ gw
  len : s.W.length ≤ 4096
  ops : s.ops ≤ 1000000000000
section
variable {w w' : World} {b gw cap : Nat} {s : Ar}
theorem RaIs.turns {S : List Nat} (h : RaIs w b gw cap s) (k : Turns S w w') (h1 : b ∉ S) (h2 : gw ∉ S) : RaIs w' b gw cap s :=
  ⟨k.blk h.blk h1, Turns.own h.wds k (by simpa [Value.ownBlock] using h2), h.ne, h.len, h.ops⟩
theorem RaIs.c1 (h : RaIs w b gw cap s) : w.cell? ⟨b, 1, none⟩ = some (.slice (some ⟨gw, 0, none⟩) s.W.length cap) := h.blk.cell 1
theorem RaIs.c2 (h : RaIs w b gw cap s) : w.cell? ⟨b, 2, none⟩ = some (.int .i64 s.ops) := h.blk.cell 2
theorem RaIs.c3 (h : RaIs w b gw cap s) : w.cell? ⟨b, 3, none⟩ = some (.int .i64 s.k) := h.blk.cell 3
theorem RaIs.c4 (h : RaIs w b gw cap s) : w.cell? ⟨b, 4, none⟩ = some (.int .i64 s.at_) := h.blk.cell 4
theorem RaIs.c5 (h : RaIs w b gw cap s) : w.cell? ⟨b, 5, none⟩ = some (.bool s.wr) := h.blk.cell 5
theorem RaIs.word (h : RaIs w b gw cap s) {x : Int} (hx : inR s.W x = true) : w.cell? ⟨gw, x.toNat - 1, none⟩ = some (.int .i64 (ldW s.W x)) ∧ w.frozen? ⟨gw, x.toNat - 1, none⟩ = false ∧ gw < w.heap.size := by
  have h12 := inR_true.1 hx
  refine ⟨?_, h.wds.frozenAt _, (h.wds.lt _ rfl).2⟩
  have h1 := h.wds.cellAt (x.toNat - 1) (by omega)
  rw [h1]
  have : x.toNat - 1 < s.W.length := by omega
  unfold ldW
  rw [if_pos hx]
  simp [this]
theorem RaIs.note (h : RaIs w b gw cap s) (k x : Int) (wr : Bool) (hx : inR s.W x = true) (ho : s.ops + 1 ≤ 1000000000000) :
    RaIs ((((w.setCell ⟨b, 2, none⟩ (.int .i64 (s.ops + 1))).setCell ⟨b, 3, none⟩ (.int .i64 k)).setCell ⟨b, 4, none⟩ (.int .i64 x)).setCell ⟨b, 5, none⟩ (.bool wr)) b gw cap (noteA s k x wr) ∧ Turns [b, gw] w ((((w.setCell ⟨b, 2, none⟩ (.int .i64 (s.ops + 1))).setCell ⟨b, 3, none⟩ (.int .i64 k)).setCell ⟨b, 4, none⟩ (.int .i64 x)).setCell ⟨b, 5, none⟩ (.bool wr)) := by
  have hb := (((h.blk.set_ 2 (.int .i64 (s.ops + 1))).set_ 3 (.int .i64 k)).set_ 4 (.int .i64 x)).set_ 5 (.bool wr)
  have ht : Turns [b] w ((((w.setCell ⟨b, 2, none⟩ (.int .i64 (s.ops + 1))).setCell ⟨b, 3, none⟩ (.int .i64 k)).setCell ⟨b, 4, none⟩ (.int .i64 x)).setCell ⟨b, 5, none⟩ (.bool wr)) :=
    ((((Turns.refl _ _).setCell (.inl (by simp)) _).setCell (.inl (by simp)) _).setCell (.inl (by simp)) _).setCell (.inl (by simp)) _
  have e : noteA s k x wr = { s with ops := s.ops + 1, k := k, at_ := x, wr := wr } := by unfold noteA; rw [if_pos hx]
  rw [e]
  exact ⟨⟨hb, Turns.own h.wds ht (by simpa [Value.ownBlock] using fun e => h.ne e.symm), h.ne, h.len, ho⟩, ht.mono (by simp)⟩
theorem RaIs.put (h : RaIs w b gw cap s) {x : Int} (hx : inR s.W x = true) (v : Int) : RaIs (w.setCell ⟨gw, x.toNat - 1, none⟩ (.int .i64 v)) b gw cap (wrA s x v) ∧ Turns [b, gw] w (w.setCell ⟨gw, x.toNat - 1, none⟩ (.int .i64 v)) := by
  have h1 := h.blk.far (p := ⟨gw, x.toNat - 1, none⟩) h.ne (.int .i64 v)
  have h2 := (h.wds.stored (x.toNat - 1) (.int .i64 v)).1
  have e : wrA s x v = { s with W := s.W.set (x.toNat - 1) v } := by unfold wrA stW; rw [if_pos hx]
  rw [e]
  refine ⟨⟨?_, ?_, h.ne, by simpa using h.len, h.ops⟩, (Turns.refl _ _).setCell (.inl (by simp)) _⟩
  · simpa using h1
  · simpa [List.map_set] using h2
end
def RopOk (w : World) (b gw cap : Nat) (s' : Ar) (r : Value) (e : Ending) (w' : World) : Prop := e = .returned r ∧ RaIs w' b gw cap s' ∧ Turns [b, gw] w w'
def ropA (s : Ar) (k x v : Int) (wr : Bool) : Ar := if wr then wrA (noteA s k x true) x v else noteA s k x false
set_option maxRecDepth 100000 in
set_option maxHeartbeats 1000000 in
theorem rop_any {w : World} {b gw cap : Nat} {s : Ar} (h : RaIs w b gw cap s) (k x v : Int) (wr : Bool) (ho : s.ops + 1 ≤ 1000000000000) :
    Calls Try.prog 101 #[.pointer (some ⟨b, 0, none⟩), .int .i64 k, .int .i64 x, .int .i64 v, .bool wr] w (RopOk w b gw cap (ropA s k x v wr) (.tuple #[.int .i64 (ldW s.W x), .bool (inR s.W x)])) := by
  have H := Lib.hid h
  have c1 := h.c1
  have c2 := h.c2
  have c3 := h.c3
  have c4 := h.c4
  have c5 := h.c5
  have f2 := h.blk.free 2
  have f3 := h.blk.free 3
  have f4 := h.blk.free 4
  have f5 := h.blk.free 5
  have hbl := h.blk.lt
  have hlen := h.len
  have hne := h.ne
  cases hx : inR s.W x
  · have hn := inR_false.1 hx
    have e1 : ropA s k x v wr = s := by unfold ropA; cases wr <;> simp [noteA_out s _ _ _ hx, wrA_out s _ _ hx]
    have E := Lib.hid (And.intro e1 (ldW_out hx))
    clear h hx e1
    by_cases h1 : x < 1
    · clear hn
      go_enter Try.func101, Try.ntmps101
      go_wp2
      go_ret2
      rw [E.out.1, E.out.2]
      exact ⟨rfl, H.out, Turns.refl _ _⟩
    · have h2 : (s.W.length : Int) < x := by omega
      clear hn
      go_enter Try.func101, Try.ntmps101
      go_wp2
      go_ret2
      rw [E.out.1, E.out.2]
      exact ⟨rfl, H.out, Turns.refl _ _⟩
  · obtain ⟨w0, wf, wl⟩ := h.word hx
    have h12 := inR_true.1 hx
    have t1 : ¬ x < 1 := by omega
    have t2 : ¬ (s.W.length : Int) < x := by omega
    obtain ⟨m, hm⟩ : ∃ m : Nat, x = ((m + 1 : Nat) : Int) := ⟨x.toNat - 1, by omega⟩
    subst hm
    have e1 : ((m + 1 : Nat) : Int).toNat - 1 = m := by omega
    rw [e1] at w0 wf
    have hm4 : m < s.W.length := by omega
    have hm5 : (m : Int) < s.W.length := by omega
    obtain ⟨r, hr⟩ : ∃ r, r = ldW s.W ((m + 1 : Nat) : Int) := ⟨_, rfl⟩
    rw [← hr] at w0 ⊢
    have HX := Lib.hid (And.intro hx (And.intro e1 hr))
    have hnote := h.note k ((m + 1 : Nat) : Int) wr hx ho
    have hput : Hid (wr = true → RaIs (((((w.setCell ⟨b, 2, none⟩ (.int .i64 (s.ops + 1))).setCell ⟨b, 3, none⟩ (.int .i64 k)).setCell ⟨b, 4, none⟩ (.int .i64 ((m + 1 : Nat) : Int))).setCell ⟨b, 5, none⟩ (.bool wr)).setCell ⟨gw, m, none⟩ (.int .i64 v)) b gw cap (wrA (noteA s k ((m + 1 : Nat) : Int) wr) ((m + 1 : Nat) : Int) v) ∧ Turns [b, gw] ((((w.setCell ⟨b, 2, none⟩ (.int .i64 (s.ops + 1))).setCell ⟨b, 3, none⟩ (.int .i64 k)).setCell ⟨b, 4, none⟩ (.int .i64 ((m + 1 : Nat) : Int))).setCell ⟨b, 5, none⟩ (.bool wr)) (((((w.setCell ⟨b, 2, none⟩ (.int .i64 (s.ops + 1))).setCell ⟨b, 3, none⟩ (.int .i64 k)).setCell ⟨b, 4, none⟩ (.int .i64 ((m + 1 : Nat) : Int))).setCell ⟨b, 5, none⟩ (.bool wr)).setCell ⟨gw, m, none⟩ (.int .i64 v))) := Lib.hid fun _ => by
      have := hnote.1.put (x := ((m + 1 : Nat) : Int)) (by rw [noteA_W]; exact HX.out.1) v
      rw [HX.out.2.1] at this
      exact this
    have HN := Lib.hid hnote
    clear h hx h12 hr hnote e1
    go_enter Try.func101, Try.ntmps101
    cases wr
    · go_wp2
      go_ret2
      exact ⟨rfl, by unfold ropA; exact HN.out.1, HN.out.2⟩
    · go_wp2
      go_ret2
      refine ⟨rfl, ?_, HN.out.2.trans (hput.out trivial).2⟩
      unfold ropA
      exact (hput.out trivial).1
end Go.Proofs.Ythgpjiebeinamaa
