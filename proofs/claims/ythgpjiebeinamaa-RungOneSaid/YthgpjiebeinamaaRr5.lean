/- Layer 26: the document's rung: Step; a new arena and a new rung of the document's. -/
import Derived.Test.YthgpjiebeinamaaRr4
import Derived.Test.YthgpjiebeinamaaRg4
namespace Go.Proofs.Ythgpjiebeinamaa
open Go.RowKit

set_option maxRecDepth 100000 in
set_option maxHeartbeats 1000000 in
theorem rstep_any {w : World} {y b gw cap q cq : Nat} {t : Int} {r : Rg} (h : RrIs w y b gw cap q cq t r) (i : Int) (ho : r.ar.ops + 1 ≤ 1000000000000) (hpc : ∀ p ∈ r.S, pcOk p) :
    Calls Try.prog 40 #[.pointer (some ⟨y, 0, none⟩), .int .i64 i] w (RrOk w y b gw cap q cq t (stepRg r t i)) := by
  have H := Lib.hid h
  have hlen := h.len
  have c2 : w.cell? ⟨y, 2, none⟩ = some (.slice (some ⟨q, 0, none⟩) r.S.length cq) := h.lk.cell 2
  by_cases hi : okI r.S i
  · have hp := getS_in hi
    obtain ⟨p, hpp⟩ : ∃ p, p = getS r.S i := ⟨_, rfl⟩
    rw [← hpp] at hp
    have hok := hpc p (List.mem_of_getElem? hp)
    obtain ⟨h0, h9⟩ := id hi
    obtain ⟨n, rfl⟩ := Int.eq_ofNat_of_zero_le h0
    simp only [Int.toNat_natCast] at hp
    by_cases hz : p.pc = 0 ∨ p.pc = 10
    · have HS : Hid (stepRg r t n = (r, false)) := Lib.hid (by unfold stepRg; rw [← hpp, if_neg (by omega)])
      have a0 := h.cell hp 0 _ rfl
      simp only [Nat.add_zero] at a0
      have f0 := h.free (n * 4)
      have hq := h.lt
      have t2 : ¬ (n : Int) < 0 := by omega
      have u2 : decide ((n : Int) < 0) = false := decide_eq_false t2
      have t3 : ¬ ((r.S.length : Nat) : Int) ≤ (n : Int) := by omega
      have t4 : (n : Int) < r.S.length := by omega
      have hyq := h.yq
      have hself : Hid (RrIs (w.setCell ⟨q, n * 4, none⟩ (.int .i64 p.pc)) y b gw cap q cq t r) := Lib.hid (by
        have := h.put hp (j := 0) (u := .int .i64 p.pc) (p' := p) (by decide) rfl
        have hset : r.S.set n p = r.S := by obtain ⟨hk, rfl⟩ := List.getElem?_eq_some_iff.1 hp; simp
        rw [hset] at this
        simpa using this)
      have ht : Hid (Turns [b, gw, q] w (w.setCell ⟨q, n * 4, none⟩ (.int .i64 p.pc))) := Lib.hid ((Turns.refl _ _).setCell (.inl (by simp)) _)
      obtain ⟨ppc, hppc⟩ : ∃ z, z = p.pc := ⟨_, rfl⟩
      rw [← hppc] at a0 hz hself ht
      clear h hp hpp hok hpc hi h0 h9 hppc
      rcases hz with rfl | rfl
      all_goals
        go_enter Try.func40, Try.ntmps40
        go_wp2
        go_ret
        rw [HS.out]
        exact ⟨rfl, hself.out, ht.out⟩
    · obtain ⟨ppc, pa, pb, pc⟩ := p
      have hcase : ppc = 1 ∨ ppc = 2 ∨ ppc = 3 ∨ ppc = 4 ∨ ppc = 5 ∨ ppc = 6 ∨ ppc = 11 ∨ ppc = 12 ∨ ppc = 13 ∨ ppc = 14 ∨ ppc = 15 ∨ ppc = 16 := by
        unfold pcOk at hok
        simp only at hok hz
        omega
      rcases hcase with rfl | rfl | rfl | rfl | rfl | rfl | rfl | rfl | rfl | rfl | rfl | rfl
      · exact rstep1 h n pa pb pc hp ho
      · exact rstep2 h n pa pb pc hp ho
      · exact rstep3 h n pa pb pc hp ho
      · exact rstep4 h n pa pb pc hp ho
      · exact rstep5 h n pa pb pc hp ho
      · exact rstep6 h n pa pb pc hp ho
      · exact rstep11 h n pa pb pc hp ho
      · exact rstep12 h n pa pb pc hp ho
      · exact rstep13 h n pa pb pc hp ho
      · exact rstep14 h n pa pb pc hp ho
      · exact rstep15 h n pa pb pc hp ho
      · exact rstep16 h n pa pb pc hp ho
  · have HS : Hid (stepRg r t i = (r, false)) := Lib.hid (by unfold stepRg; rw [if_neg (fun h => hi h.1)])
    unfold okI at hi
    clear h hpc
    by_cases h0 : i < 0
    · go_enter Try.func40, Try.ntmps40
      go_wp2
      go_ret
      rw [HS.out]
      exact ⟨rfl, H.out, Turns.refl _ _⟩
    · have t3 : ((r.S.length : Nat) : Int) ≤ i := by omega
      clear hi
      go_enter Try.func40, Try.ntmps40
      go_wp2
      go_ret
      rw [HS.out]
      exact ⟨rfl, H.out, Turns.refl _ _⟩

/-- the document's arena that is new: a block, no words yet -/
def RaNew (w : World) (b : Nat) (room : Nat) : Prop := Blk w b 55 #[.int .i64 room, .slice none 0 0, .int .i64 0, .int .i64 0, .int .i64 0, .bool false]
theorem rnewA_any (w : World) (room : Int) : Calls Try.prog 19 #[.int .i64 room] w fun e w' => ∃ b, e = .returned (.pointer (some ⟨b, 0, none⟩)) ∧ RaNew w' b (clampA room) ∧ w.heap.size ≤ b ∧ Below w.heap.size w w' := by
  have hB : ∀ o, Below w.heap.size w (w.alloc o) := fun o => (Below.refl _ _).alloc (Nat.le_refl _) o
  have HB := Lib.hid hB
  clear hB
  by_cases h0 : room < 0
  · have e : clampA room = 0 := by unfold clampA; rw [if_pos h0]
    have E := Lib.hid e
    clear e
    go_enter Try.func19, Try.ntmps19
    go_wp2
    go_ret
    refine ⟨_, rfl, ?_, Nat.le_refl _, HB.out _⟩
    rw [E.out]
    exact Blk.new _ _ _
  · by_cases h1 : 4096 < room
    · have e : (clampA room : Int) = 4096 := by unfold clampA; rw [if_neg h0, if_pos h1]; rfl
      have E := Lib.hid e
      clear e
      go_enter Try.func19, Try.ntmps19
      go_wp2
      go_ret
      refine ⟨_, rfl, ?_, Nat.le_refl _, HB.out _⟩
      unfold RaNew
      rw [E.out]
      exact Blk.new _ _ _
    · have e : (clampA room : Int) = room := by unfold clampA; rw [if_neg h0, if_neg h1]; omega
      have E := Lib.hid e
      clear e
      go_enter Try.func19, Try.ntmps19
      go_wp2
      go_ret
      refine ⟨_, rfl, ?_, Nat.le_refl _, HB.out _⟩
      unfold RaNew
      rw [E.out]
      exact Blk.new _ _ _
end Go.Proofs.Ythgpjiebeinamaa
