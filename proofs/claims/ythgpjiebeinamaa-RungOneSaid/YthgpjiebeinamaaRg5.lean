/- Layer 26: a rung of the caller's own, call by call. -/
import Derived.Test.YthgpjiebeinamaaRg4
namespace Go.Proofs.Ythgpjiebeinamaa
open Go.RowKit

theorem noteA_ops (s : Ar) (k x : Int) (wr : Bool) : (noteA s k x wr).ops ≤ s.ops + 1 := by unfold noteA; split <;> simp
theorem stepP_ops (s : Ar) (t x : Int) (p : Sp) : (stepP s t x p).1.ops ≤ s.ops + 1 := by
  unfold stepP inR26 outR26 storeA swapA loadA casA wrA
  split
  · repeat' split
    all_goals exact noteA_ops _ _ _ _
  · repeat' split
    all_goals exact noteA_ops _ _ _ _
theorem stepP_pc (s : Ar) (t x : Int) (p : Sp) : pcOk (stepP s t x p).2 := by
  unfold stepP inR26 outR26 pcOk
  split
  · split
    · exact .inl ⟨by show (0 : Int) ≤ 2; omega, by show (2 : Int) ≤ 6; omega⟩
    · split
      · exact .inl ⟨by show (0 : Int) ≤ 3; omega, by show (3 : Int) ≤ 6; omega⟩
      · split
        · dsimp only; split <;> omega
        · split
          · exact .inl ⟨by show (0 : Int) ≤ 5; omega, by show (5 : Int) ≤ 6; omega⟩
          · split
            · dsimp only; repeat' split
              all_goals (dsimp only; omega)
            · dsimp only; omega
  · split
    · dsimp only; split <;> omega
    · split
      · dsimp only; omega
      · split
        · dsimp only; split <;> omega
        · split
          · dsimp only; omega
          · dsimp only; repeat' split
            all_goals omega
theorem mem_set_or {α : Type} {l : List α} {i : Nat} {a x : α} (h : x ∈ l.set i a) : x ∈ l ∨ x = a := by
  rcases List.mem_or_eq_of_mem_set h with h | h
  · exact .inl h
  · exact .inr h
theorem stepRg_ops (r : Rg) (t i : Int) : (stepRg r t i).1.ar.ops ≤ r.ar.ops + 1 := by
  unfold stepRg
  split
  · exact stepP_ops _ _ _ _
  · simp
theorem stepRg_pc {r : Rg} (h : ∀ p ∈ r.S, pcOk p) (t i : Int) : ∀ p ∈ (stepRg r t i).1.S, pcOk p := by
  unfold stepRg
  split
  · intro p hp
    rcases mem_set_or hp with hp | rfl
    · exact h p hp
    · exact stepP_pc _ _ _ _
  · exact h
theorem beginRg_pc {r : Rg} (h : ∀ p ∈ r.S, pcOk p) (i f u : Int) (hu : (0 ≤ u ∧ u ≤ 6) ∨ (10 ≤ u ∧ u ≤ 16)) : ∀ p ∈ (beginRg r i f u).1.S, pcOk p := by
  unfold beginRg
  split
  · intro p hp
    rcases mem_set_or hp with hp | rfl
    · exact h p hp
    · exact hu
  · exact h
theorem withRg_pc {r : Rg} (h : ∀ p ∈ r.S, pcOk p) (i u v : Int) (hu : (0 ≤ u ∧ u ≤ 6) ∨ (10 ≤ u ∧ u ≤ 16)) : ∀ p ∈ (withRg r i u v).1.S, pcOk p := by
  unfold withRg
  split
  · intro p hp
    rcases mem_set_or hp with hp | rfl
    · exact h p hp
    · exact hu
  · exact h
theorem beginRg_ar (r : Rg) (i f u : Int) : (beginRg r i f u).1.ar = r.ar := by unfold beginRg; split <;> rfl
theorem withRg_ar (r : Rg) (i u v : Int) : (withRg r i u v).1.ar = r.ar := by unfold withRg; split <;> rfl

/-- a rung of the caller's own, in a world that is the caller's but for what is new -/
structure St (w0 w : World) (l a g q : Nat) (t : Int) (r : Rg) (N : Nat) : Prop where
  rg : RgIs w l a g q t r
  bel : Below w0.heap.size w0 w
  hl : w0.heap.size ≤ l
  ha : w0.heap.size ≤ a
  hg : w0.heap.size ≤ g
  hq : w0.heap.size ≤ q
  ok : ∀ p ∈ r.S, pcOk p
  ops : r.ar.ops ≤ N
section
variable {w0 w w' : World} {l a g q : Nat} {t : Int} {r r' : Rg} {N : Nat}
theorem St.next (h : St w0 w l a g q t r N) (hr : RgIs w' l a g q t r') (k : Turns [a, g, q] w w') (hok : ∀ p ∈ r'.S, pcOk p) {M : Nat} (hM : r'.ar.ops ≤ M) : St w0 w' l a g q t r' M :=
  ⟨hr, h.bel.trans (k.below (by simp [h.ha, h.hg, h.hq]) h.bel.size), h.hl, h.ha, h.hg, h.hq, hok, hM⟩
theorem St.below (h : St w0 w l a g q t r N) (k : Below w.heap.size w w') : St w0 w' l a g q t r N :=
  ⟨h.rg.below k, h.bel.trans (k.mono h.bel.size), h.hl, h.ha, h.hg, h.hq, h.ok, h.ops⟩
theorem ask_call (h : St w0 w l a g q t r N) (i : Int) (b : Bool) (hx : beginRg r i 0 1 = (r', b)) :
    Calls Try.prog 11 #[.pointer (some ⟨l, 0, none⟩), .int .i64 i] w fun e w' => e = .returned (.bool b) ∧ St w0 w' l a g q t r' N :=
  (ask_any h.rg i).mono fun _ _ ⟨he, hr, ht⟩ => by
    have hp := beginRg_pc h.ok i 0 1 (.inl ⟨by omega, by omega⟩)
    have ho := beginRg_ar r i 0 1
    rw [hx] at he hr hp ho
    exact ⟨he, h.next hr (ht.mono (by simp)) hp (by rw [show r'.ar = r.ar from ho]; exact h.ops)⟩
theorem leave_call (h : St w0 w l a g q t r N) (i v : Int) (b : Bool) (hx : withRg r i 11 v = (r', b)) :
    Calls Try.prog 14 #[.pointer (some ⟨l, 0, none⟩), .int .i64 i, .int .i64 v] w fun e w' => e = .returned (.bool b) ∧ St w0 w' l a g q t r' N :=
  (leave_any h.rg i v).mono fun _ _ ⟨he, hr, ht⟩ => by
    have hp := withRg_pc h.ok i 11 v (.inr ⟨by omega, by omega⟩)
    have ho := withRg_ar r i 11 v
    rw [hx] at he hr hp ho
    exact ⟨he, h.next hr (ht.mono (by simp)) hp (by rw [show r'.ar = r.ar from ho]; exact h.ops)⟩
theorem pass_call (h : St w0 w l a g q t r N) (i v : Int) (b : Bool) (hx : withRg r i 15 v = (r', b)) :
    Calls Try.prog 15 #[.pointer (some ⟨l, 0, none⟩), .int .i64 i, .int .i64 v] w fun e w' => e = .returned (.bool b) ∧ St w0 w' l a g q t r' N :=
  (pass_any h.rg i v).mono fun _ _ ⟨he, hr, ht⟩ => by
    have hp := withRg_pc h.ok i 15 v (.inr ⟨by omega, by omega⟩)
    have ho := withRg_ar r i 15 v
    rw [hx] at he hr hp ho
    exact ⟨he, h.next hr (ht.mono (by simp)) hp (by rw [show r'.ar = r.ar from ho]; exact h.ops)⟩
theorem step_call (h : St w0 w l a g q t r N) (i : Int) (b : Bool) (hN : N + 1 ≤ 1000000000000) (hx : stepRg r t i = (r', b)) :
    Calls Try.prog 34 #[.pointer (some ⟨l, 0, none⟩), .int .i64 i] w fun e w' => e = .returned (.bool b) ∧ St w0 w' l a g q t r' (N + 1) :=
  (step_any h.rg i (by have := h.ops; omega) h.ok).mono fun _ _ ⟨he, hr, ht⟩ => by
    have hp := stepRg_pc h.ok t i
    have ho := stepRg_ops r t i
    rw [hx] at he hr hp ho
    exact ⟨he, h.next hr ht hp (by have := h.ops; show r'.ar.ops ≤ N + 1; have : r'.ar.ops ≤ r.ar.ops + 1 := ho; omega)⟩
theorem spot_call (h : St w0 w l a g q t r N) (i : Int) (p : Sp) (hx : getS r.S i = p) :
    Calls Try.prog 13 #[.pointer (some ⟨l, 0, none⟩), .int .i64 i] w fun e w' => e = .returned (.agg #[.int .i64 p.pc, .int .i64 p.a, .int .i64 p.b, .int .i64 p.c]) ∧ St w0 w' l a g q t r N :=
  (spot_any h.rg i).mono fun _ _ ⟨he, hb⟩ => by rw [hx] at he; exact ⟨he, h.below hb⟩
end
def stepsRg : Nat → Rg → Int → Int → Rg × Bool
  | 0, r, _, _ => (r, false)
  | k + 1, r, t, i => if (stepRg r t i).2 then ((stepRg r t i).1, true) else stepsRg k (stepRg r t i).1 t i
set_option maxHeartbeats 1000000 in
theorem steps_call {w0 w : World} {l a g q : Nat} {t : Int} {r r' : Rg} {N : Nat} (h : St w0 w l a g q t r N) (i : Int) (n : Nat) (b : Bool) (hn : n ≤ 1000) (hN : N + n ≤ 1000000000) (hx : stepsRg n r t i = (r', b)) :
    Calls Try.prog 12 #[.pointer (some ⟨l, 0, none⟩), .int .i64 i, .int .i64 n] w fun e w' => e = .returned (.bool b) ∧ St w0 w' l a g q t r' (N + n) := by
  have H := Lib.hid (And.intro h hx)
  clear h hx
  go_enter Try.func12, Try.ntmps12
  go_wp2
  go_loopw [7] (fun j wr => ∃ (k : Nat) (r1 : Rg), j = .int .i64 k ∧ k ≤ n ∧ stepsRg (n - k) r1 t i = (r', b) ∧ St w0 wr l a g q t r1 (N + k)) (fun j _ => n - (intOf j).toNat)
  case atStart => exact ⟨0, r, rfl, by omega, H.out.2, H.out.1⟩
  case round =>
    obtain ⟨k, r1, rfl, hk, hst, hS⟩ := hrel
    by_cases hlt : k < n
    · have e : n - k = (n - (k + 1)) + 1 := by omega
      rw [e] at hst
      have hst' : (if (stepRg r1 t i).2 then ((stepRg r1 t i).1, true) else stepsRg (n - (k + 1)) (stepRg r1 t i).1 t i) = (r', b) := hst
      obtain ⟨r2, c, hrc⟩ : ∃ r2 c, stepRg r1 t i = (r2, c) := ⟨_, _, rfl⟩
      rw [hrc] at hst'
      have HS := Lib.hid (And.intro hS hrc)
      clear hS hst e hrc
      cases c
      · have HT : Hid (stepsRg (n - (k + 1)) r2 t i = (r', b)) := Lib.hid hst'
        clear hst'
        go_wp2_with fail
        refine (step_call HS.out.1 i false (by omega) HS.out.2).mono ?_
        rintro en w1 ⟨rfl, h1⟩
        have H1 := Lib.hid h1
        clear h1
        go_wp2
        go_roundw
        case rel => exact ⟨k + 1, r2, by go_num, by omega, HT.out, H1.out⟩
        case measure => simp [intOf]; omega
      · have HT : Hid ((r2, true) = (r', b)) := Lib.hid hst'
        clear hst'
        go_wp2_with fail
        refine (step_call HS.out.1 i true (by omega) HS.out.2).mono ?_
        rintro en w1 ⟨rfl, h1⟩
        have H1 := Lib.hid h1
        clear h1
        go_wp2
        go_ret
        have ht := HT.out
        injection ht with h1 h2
        subst h1 h2
        exact ⟨rfl, ⟨H1.out.rg, H1.out.bel, H1.out.hl, H1.out.ha, H1.out.hg, H1.out.hq, H1.out.ok, by have := H1.out.ops; omega⟩⟩
    · obtain rfl : k = n := by omega
      have HT : Hid ((r1, false) = (r', b)) := Lib.hid (by rw [Nat.sub_self] at hst; exact hst)
      have HS := Lib.hid hS
      clear hst hS
      go_wp2
      go_ret
      have ht := HT.out
      injection ht with h1 h2
      subst h1 h2
      exact ⟨rfl, HS.out⟩
def newR (room n : Nat) : Rg := ⟨⟨List.replicate (2 * n + 1) 0, room, 0, 0, 0, false⟩, List.replicate n Sp.zero⟩
end Go.Proofs.Ythgpjiebeinamaa
