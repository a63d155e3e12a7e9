/- Joined: Rg3, Rg4, Rg5, RgO1, RgO2. -/
import Derived.Test.YtkdaiomjbkpedaaGreatMgHmcsTenure2
import Derived.Test.YtkdaiomjbkpedaaGreatMgHmcsTenure10
section
/- Layers 1 and 26: Step; a new arena, taking words, a new rung. -/
namespace Go.Proofs.YtkdaiomjbkpedaaGreat
open Go.RowKit

def pcOk (p : Sp) : Prop := (0 ≤ p.pc ∧ p.pc ≤ 6) ∨ (10 ≤ p.pc ∧ p.pc ≤ 16)
theorem in_any {w : World} {l a g q : Nat} {t : Int} {r : Rg} (h : RgIs w l a g q t r) (n : Nat) (p : Sp) (hp : r.S[n]? = some p) (x : Int) (ho : r.ar.ops + 1 ≤ 1000000000000) (h1 : 1 ≤ p.pc) (h6 : p.pc ≤ 6) :
    Calls Tryz.prog 110 #[.pointer (some ⟨l, 0, none⟩), .pointer (some ⟨q, n * 4, none⟩), .int .i64 x] w (StepOk w l a g q t n r p (inR26 r.ar t x p)) := by
  rcases (show p.pc = 1 ∨ p.pc = 2 ∨ p.pc = 3 ∨ p.pc = 4 ∨ p.pc = 5 ∨ p.pc = 6 by omega) with e | e | e | e | e | e
  · exact in1 h n p hp x ho e
  · exact in2 h n p hp x ho e
  · exact in3 h n p hp x ho e
  · exact in4 h n p hp x ho e
  · exact in5 h n p hp x ho e
  · exact in6 h n p hp x ho e
theorem out_any {w : World} {l a g q : Nat} {t : Int} {r : Rg} (h : RgIs w l a g q t r) (n : Nat) (p : Sp) (hp : r.S[n]? = some p) (x : Int) (ho : r.ar.ops + 1 ≤ 1000000000000) (h1 : 11 ≤ p.pc) (h6 : p.pc ≤ 16) :
    Calls Tryz.prog 111 #[.pointer (some ⟨l, 0, none⟩), .pointer (some ⟨q, n * 4, none⟩), .int .i64 x] w (StepOk w l a g q t n r p (outR26 r.ar t x p)) := by
  rcases (show p.pc = 11 ∨ p.pc = 12 ∨ p.pc = 13 ∨ p.pc = 14 ∨ p.pc = 15 ∨ p.pc = 16 by omega) with e | e | e | e | e | e
  · exact out11 h n p hp x ho e
  · exact out12 h n p hp x ho e
  · exact out13 h n p hp x ho e
  · exact out14 h n p hp x ho e
  · exact out15 h n p hp x ho e
  · exact out16 h n p hp x ho e
def RgOk (w : World) (l a g q : Nat) (t : Int) (x : Rg × Bool) (e : Ending) (w' : World) : Prop := e = .returned (.bool x.2) ∧ RgIs w' l a g q t x.1 ∧ Turns [a, g, q] w w'
theorem BegOk.rg {w : World} {l a g q : Nat} {t : Int} {x : Rg × Bool} {e : Ending} {w' : World} (h : BegOk w l a g q t x e w') : RgOk w l a g q t x e w' := ⟨h.1, h.2.1, h.2.2.mono (by simp)⟩
set_option maxRecDepth 100000 in
set_option maxHeartbeats 1000000 in
theorem step_any {w : World} {l a g q : Nat} {t : Int} {r : Rg} (h : RgIs w l a g q t r) (i : Int) (ho : r.ar.ops + 1 ≤ 1000000000000) (hpc : ∀ p ∈ r.S, pcOk p) :
    Calls Tryz.prog 62 #[.pointer (some ⟨l, 0, none⟩), .int .i64 i] w (RgOk w l a g q t (stepRg r t i)) := by
  have hfield := field_pc
  have H := Lib.hid h
  have hlen := h.len
  obtain ⟨p, hp⟩ : ∃ p, p = getS r.S i := ⟨_, rfl⟩
  have HP := Lib.hid hp
  by_cases hc : okI r.S i ∧ p.pc ≠ 0 ∧ p.pc ≠ 10
  · obtain ⟨hi, hz, ht⟩ := hc
    have hget := getS_in hi
    rw [← hp] at hget
    have hok := hpc p (List.mem_of_getElem? hget)
    obtain ⟨h0, h9⟩ := id hi
    obtain ⟨n, rfl⟩ := Int.eq_ofNat_of_zero_le h0
    simp only [Int.toNat_natCast] at hget
    have t0 : (p.pc == 0) = false := by simpa using hz
    have t10 : (p.pc == 10) = false := by simpa using ht
    have hn : n < r.S.length := by omega
    have hn2 : (n : Int) < r.S.length := by omega
    have hx : (n : Int) + 1 ≤ 33 := by omega
    have HS : Hid (stepRg r t n = (⟨(stepP r.ar t (n + 1) p).1, r.S.set n (stepP r.ar t (n + 1) p).2⟩, decide ((stepP r.ar t (n + 1) p).2.pc = 0 ∨ (stepP r.ar t (n + 1) p).2.pc = 10))) := Lib.hid (by
      unfold stepRg
      rw [← HP.out, if_pos ⟨hi, hz, ht⟩]; rfl)
    have HG := Lib.hid (And.intro hget hi)
    have HB : Hid ((1 ≤ p.pc ∧ p.pc ≤ 6) ∨ (11 ≤ p.pc ∧ p.pc ≤ 16)) := Lib.hid (by unfold pcOk at hok; omega)
    clear h hp hz ht hget h0 h9 hi hpc hok
    go_enter Tryz.func62, Tryz.ntmps62
    go_wp2_with fail
    refine (spot_any H.out n).mono ?_
    rintro en w1 ⟨rfl, b1⟩
    rw [← HP.out]
    unfold spotV
    have h1 := H.out.below b1
    have H1 := Lib.hid (And.intro h1 b1)
    have c2 : w1.cell? ⟨l, 2, none⟩ = some (.slice (some ⟨q, 0, none⟩) r.S.length r.S.length) := h1.lk.cell 2
    clear h1 b1
    by_cases h10 : p.pc < 10
    all_goals
      go_wp2_with fail
      first
        | refine (in_any H1.out.1 n p HG.out.1 _ ho (by have := HB.out; omega) (by have := HB.out; omega)).mono ?_
        | refine (out_any H1.out.1 n p HG.out.1 _ ho (by have := HB.out; omega) (by have := HB.out; omega)).mono ?_
      rintro en w2 ⟨rfl, h2, t2⟩
      obtain ⟨y, hy⟩ : ∃ y, y = stepP r.ar t (n + 1) p := ⟨_, rfl⟩
      have hyy := hy
      unfold stepP at hyy
      first
        | rw [if_pos h10] at hyy
        | rw [if_neg (by omega)] at hyy
      rw [← hyy] at h2 ⊢
      rw [← hy] at HS
      clear hy hyy
      have hg2 : (r.S.set n { y.2 with pc := p.pc })[n]? = some { y.2 with pc := p.pc } := by simp [hn]
      have d0 := h2.sp.cell hg2 0 _ rfl
      simp only [Nat.add_zero] at d0
      have f0 := h2.sp.free (n * 4)
      have hq := h2.sp.lt
      have h3 := h2.sp.put hg2 (j := 0) (u := .int .i64 y.2.pc) (p' := y.2) (by decide) rfl
      simp only [Nat.add_zero, List.set_set] at h3
      have ht3 : Turns [q] w2 (w2.setCell ⟨q, n * 4, none⟩ (.int .i64 y.2.pc)) := (Turns.refl _ _).setCell (.inl (by simp)) _
      have h4 := h2.spot h3 (by simp) ht3
      have H2 := Lib.hid (And.intro h4 (((Turns.of_below H1.out.2).trans t2).trans (ht3.mono (by simp))))
      clear h2 t2 hg2 h3 ht3 h4
      cases z0 : (y.2.pc == 0)
      · cases z1 : (y.2.pc == 10)
        · have HD : Hid (decide (y.2.pc = 0 ∨ y.2.pc = 10) = false) := Lib.hid (by simp at z0 z1; simp [z0, z1])
          go_wp2
          go_ret
          rw [HS.out]
          exact ⟨ret_bool HD.out.symm, H2.out.1, H2.out.2⟩
        · have HD : Hid (decide (y.2.pc = 0 ∨ y.2.pc = 10) = true) := Lib.hid (by simp at z1; simp [z1])
          go_wp2
          go_ret
          rw [HS.out]
          exact ⟨ret_bool HD.out.symm, H2.out.1, H2.out.2⟩
      · have HD : Hid (decide (y.2.pc = 0 ∨ y.2.pc = 10) = true) := Lib.hid (by simp at z0; simp [z0])
        go_wp2
        go_ret
        rw [HS.out]
        exact ⟨ret_bool HD.out.symm, H2.out.1, H2.out.2⟩
  · have HS : Hid (stepRg r t i = (r, false)) := Lib.hid (by unfold stepRg; rw [← hp, if_neg hc])
    have hz : p.pc = 0 ∨ p.pc = 10 := by
      by_cases hi : okI r.S i
      · by_cases h0 : p.pc = 0
        · exact .inl h0
        · by_cases h10 : p.pc = 10
          · exact .inr h10
          · exact absurd ⟨hi, h0, h10⟩ hc
      · rw [hp, getS_out hi]; exact .inl rfl
    clear h hp hc hpc
    go_enter Tryz.func62, Tryz.ntmps62
    go_wp2_with fail
    refine (spot_any H.out i).mono ?_
    rintro en w1 ⟨rfl, b1⟩
    rw [← HP.out]
    unfold spotV
    have H1 := Lib.hid (And.intro (H.out.below b1) b1)
    clear b1
    rcases hz with hz | hz
    · have t0 : (p.pc == 0) = true := by rw [hz]; rfl
      clear hz
      go_wp2
      go_ret
      rw [HS.out]
      exact ⟨rfl, H1.out.1, Turns.of_below H1.out.2⟩
    · have t0 : (p.pc == 0) = false := by rw [hz]; rfl
      have t1 : (p.pc == 10) = true := by rw [hz]; rfl
      clear hz
      go_wp2
      go_ret
      rw [HS.out]
      exact ⟨rfl, H1.out.1, Turns.of_below H1.out.2⟩
end Go.Proofs.YtkdaiomjbkpedaaGreat
end
section
/- Layer 26: a new rung. -/
namespace Go.Proofs.YtkdaiomjbkpedaaGreat
open Go.RowKit

theorem Tryz.infoSpR : (Tryz.prog.info? 35).map (fun i => (i.zero, i.size, i.bytes)) = some (some (.agg #[.int .i64 0, .int .i64 0, .int .i64 0, .int .i64 0]), 4, 32) := by kernel_rfl
theorem rmade_const4 (u : Value) (n : Nat) : (madeCells #[u, u, u, u] n).toList = List.replicate n u := by
  unfold madeCells
  rw [Array.toList_map, Array.toList_range]
  refine List.ext_getElem? fun i => ?_
  rw [List.getElem?_map, List.getElem?_replicate]
  by_cases h : i < n
  · rw [List.getElem?_range h, if_pos h]
    have : i % 4 = 0 ∨ i % 4 = 1 ∨ i % 4 = 2 ∨ i % 4 = 3 := by omega
    rcases this with e | e | e | e <;> simp [e]
  · rw [if_neg h]; simp; omega
theorem rflat_zero (n : Nat) : (List.replicate n Sp.zero).flatMap encP4 = List.replicate (n * 4) (.int .i64 0) := by
  induction n with
  | zero => rfl
  | succ n ih => rw [List.replicate_succ, List.flatMap_cons, ih, show (n + 1) * 4 = 4 + n * 4 by omega, ← List.replicate_append_replicate]; rfl
def newRgOk (s : Ar) (n : Int) : Int := if n < 1 ∨ 32 < n then 1 else if (s.room : Int) - s.W.length < 2 * n + 1 then 3 else 0
def NewRg (w : World) (a g : Nat) (s : Ar) (n : Int) (e : Ending) (w' : World) : Prop :=
  if newRgOk s n = 0 then ∃ l q, e = .returned (.tuple #[.pointer (some ⟨l, 0, none⟩), .int .i64 0]) ∧ RgIs w' l a g q (s.W.length + 1) ⟨{ s with W := s.W ++ List.replicate (2 * n + 1).toNat 0 }, List.replicate n.toNat Sp.zero⟩ ∧ w.heap.size ≤ l ∧ w.heap.size ≤ q ∧ Turns [a] w w'
  else e = .returned (.tuple #[.pointer none, .int .i64 (newRgOk s n)]) ∧ ArIs w' a g s ∧ Turns [a] w w'
set_option maxRecDepth 100000 in
set_option maxHeartbeats 1000000 in
theorem newRg_any {w : World} {a g : Nat} {s : Ar} (h : ArIs w a g s) (n : Int) :
    Calls Tryz.prog 105 #[.pointer (some ⟨a, 0, none⟩), .int .i64 n] w (NewRg w a g s n) := by
  obtain ⟨i0, hi, hz0, hz1, hz2⟩ := info_parts Tryz.infoSpR
  have H := Lib.hid h
  have hle := h.le
  have hro := h.room
  clear h
  by_cases h0 : n < 1 ∨ 32 < n
  · have HE : Hid (newRgOk s n = 1) := Lib.hid (by unfold newRgOk; rw [if_pos h0])
    by_cases h1 : n < 1
    · clear h0
      go_enter Tryz.func105, Tryz.ntmps105
      go_wp2
      go_ret2
      unfold NewRg
      rw [HE.out, if_neg (by decide)]
      exact ⟨rfl, H.out, Turns.refl _ _⟩
    · have h2 : 32 < n := by omega
      clear h0
      go_enter Tryz.func105, Tryz.ntmps105
      go_wp2
      go_ret2
      unfold NewRg
      rw [HE.out, if_neg (by decide)]
      exact ⟨rfl, H.out, Turns.refl _ _⟩
  · obtain ⟨m, rfl⟩ := Int.eq_ofNat_of_zero_le (show 0 ≤ n by omega)
    have h1 : ¬ (m : Int) < 1 := by omega
    have h2 : ¬ 32 < (m : Int) := by omega
    have hm : m ≤ 32 := by omega
    by_cases h3 : (s.room : Int) - s.W.length < 2 * m + 1
    · have HE : Hid (newRgOk s m = 3) := Lib.hid (by unfold newRgOk; rw [if_neg h0, if_pos h3])
      have HT : Hid (takeA s (2 * m + 1) = (s, (0 : Int), (3 : Int))) := Lib.hid (by unfold takeA; rw [if_neg (by omega), if_pos h3])
      clear h0 h3
      go_enter Tryz.func105, Tryz.ntmps105
      go_wp2_with fail
      refine (take_any H.out (2 * m + 1)).mono ?_
      rintro en w1 ⟨rfl, k1, t1⟩
      rw [HT.out] at k1 ⊢
      have H1 := Lib.hid (And.intro k1 t1)
      clear k1 t1
      go_wp2
      go_ret2
      unfold NewRg
      rw [HE.out, if_neg (by decide)]
      exact ⟨rfl, H1.out.1, H1.out.2⟩
    · have HE : Hid (newRgOk s m = 0) := Lib.hid (by unfold newRgOk; rw [if_neg h0, if_neg h3])
      have HT : Hid (takeA s (2 * m + 1) = ({ s with W := s.W ++ List.replicate (2 * (m : Int) + 1).toNat 0 }, (s.W.length : Int) + 1, (0 : Int))) := Lib.hid (by unfold takeA; rw [if_neg (by omega), if_neg h3])
      clear h0 h3
      go_enter Tryz.func105, Tryz.ntmps105
      go_wp2_with fail
      refine (take_any H.out (2 * m + 1)).mono ?_
      rintro en w1 ⟨rfl, k1, t1⟩
      rw [HT.out] at k1 ⊢
      have H1 := Lib.hid (And.intro k1 t1)
      clear k1 t1
      go_wp2_with (refine wpList_make_full _ rfl (.tmp 27) (.tmp 27) 71 rfl w1.heap.size 35 i0 (.agg #[.int .i64 0, .int .i64 0, .int .i64 0, .int .i64 0]) 4 Tryz.underlying71 hi hz0 hz1 .i64 .i64 m m m rfl rfl rfl rfl ?b2 ?b3 (Nat.le_refl _) ?_)
      case b2 => rw [hz2]; omega
      case b3 => unfold maxLen; omega
      intro w2 hown hg
      have hb : SpIs w2 w1.heap.size (List.replicate m Sp.zero) := by
        unfold SpIs
        rw [rflat_zero]
        have := own_blk hown
        have e : (madeCells #[Value.int .i64 0, .int .i64 0, .int .i64 0, .int .i64 0] (m * 4)).toList = List.replicate (m * 4) (.int .i64 0) := rmade_const4 _ _
        rw [e] at this
        exact this
      have t2 : Turns [] w1 w2 := Turns.of_below ((Below.refl w1.heap.size w1).grown hg (Nat.le_refl _) (fun j hj => by cases hj))
      have hs2 := hb.lt
      have H2 := Lib.hid (And.intro hb t2)
      clear hown hg hb t2
      go_wp2
      go_ret2
      unfold NewRg
      rw [HE.out, if_pos rfl]
      have hs1 := H1.out.2.size
      have hsw := H2.out.2.size
      have hk := (H1.out.1.turns H2.out.2 (by simp) (by simp))
      have hka := hk.blk.lt
      have hkg := hk.wds.lt
      have ha1 := H1.out.1.blk.lt
      have hg1 := H1.out.1.wds.lt
      refine ⟨w2.heap.size, w1.heap.size, rfl, ⟨?_, ?_, ?_, ?_, ?_, ?_, ?_, ?_, ?_⟩, ?_, ?_, ?_⟩
      · exact hk.turns (S := []) ((Turns.refl _ _).alloc _) (by simp) (by simp)
      · have := Blk.new w2 126 #[.pointer (some ⟨a, 0, none⟩), .int .i64 (s.W.length + 1), .slice (some ⟨w1.heap.size, 0, none⟩) m m]
        simpa using this
      · simpa using H2.out.1.turns (T := []) ((Turns.refl _ _).alloc _) (by simp)
      all_goals (try simp only [List.length_replicate, Int.toNat_natCast])
      all_goals first
        | omega
        | exact (((H1.out.2.trans (H2.out.2.mono (by simp))).alloc _))
end Go.Proofs.YtkdaiomjbkpedaaGreat
end
section
/- Layer 26: a rung of the caller's own, call by call. -/
namespace Go.Proofs.YtkdaiomjbkpedaaGreat
open Go.RowKit

theorem stepP_ops (s : Ar) (t x : Int) (p : Sp) : (stepP s t x p).1.ops ≤ s.ops + 1 := by
  unfold stepP inR26 outR26 storeA swapA loadA casA wrA
  split
  · repeat' split
    all_goals exact noteA_ops _ _ _ _
  · repeat' split
    all_goals exact noteA_ops _ _ _ _
theorem stepP_pc (s : Ar) (t x : Int) (p : Sp) : pcOk (stepP s t x p).2 := by
  unfold stepP inR26 outR26 pcOk
  split
  · split
    · exact .inl ⟨by show (0 : Int) ≤ 2; omega, by show (2 : Int) ≤ 6; omega⟩
    · split
      · exact .inl ⟨by show (0 : Int) ≤ 3; omega, by show (3 : Int) ≤ 6; omega⟩
      · split
        · dsimp only; split <;> omega
        · split
          · exact .inl ⟨by show (0 : Int) ≤ 5; omega, by show (5 : Int) ≤ 6; omega⟩
          · split
            · dsimp only; repeat' split
              all_goals (dsimp only; omega)
            · dsimp only; omega
  · split
    · dsimp only; split <;> omega
    · split
      · dsimp only; omega
      · split
        · dsimp only; split <;> omega
        · split
          · dsimp only; omega
          · dsimp only; repeat' split
            all_goals omega
theorem mem_set_or {α : Type} {l : List α} {i : Nat} {a x : α} (h : x ∈ l.set i a) : x ∈ l ∨ x = a := by
  rcases List.mem_or_eq_of_mem_set h with h | h
  · exact .inl h
  · exact .inr h
theorem stepRg_ops (r : Rg) (t i : Int) : (stepRg r t i).1.ar.ops ≤ r.ar.ops + 1 := by
  unfold stepRg
  split
  · exact stepP_ops _ _ _ _
  · simp
theorem stepRg_pc {r : Rg} (h : ∀ p ∈ r.S, pcOk p) (t i : Int) : ∀ p ∈ (stepRg r t i).1.S, pcOk p := by
  unfold stepRg
  split
  · intro p hp
    rcases mem_set_or hp with hp | rfl
    · exact h p hp
    · exact stepP_pc _ _ _ _
  · exact h
theorem beginRg_pc {r : Rg} (h : ∀ p ∈ r.S, pcOk p) (i f u : Int) (hu : (0 ≤ u ∧ u ≤ 6) ∨ (10 ≤ u ∧ u ≤ 16)) : ∀ p ∈ (beginRg r i f u).1.S, pcOk p := by
  unfold beginRg
  split
  · intro p hp
    rcases mem_set_or hp with hp | rfl
    · exact h p hp
    · exact hu
  · exact h
theorem withRg_pc {r : Rg} (h : ∀ p ∈ r.S, pcOk p) (i u v : Int) (hu : (0 ≤ u ∧ u ≤ 6) ∨ (10 ≤ u ∧ u ≤ 16)) : ∀ p ∈ (withRg r i u v).1.S, pcOk p := by
  unfold withRg
  split
  · intro p hp
    rcases mem_set_or hp with hp | rfl
    · exact h p hp
    · exact hu
  · exact h
theorem beginRg_ar (r : Rg) (i f u : Int) : (beginRg r i f u).1.ar = r.ar := by unfold beginRg; split <;> rfl
theorem withRg_ar (r : Rg) (i u v : Int) : (withRg r i u v).1.ar = r.ar := by unfold withRg; split <;> rfl

/-- a rung of the caller's own, in a world that is the caller's but for what is new -/
structure StRg (w0 w : World) (l a g q : Nat) (t : Int) (r : Rg) (N : Nat) : Prop where
  rg : RgIs w l a g q t r
  bel : Below w0.heap.size w0 w
  hl : w0.heap.size ≤ l
  ha : w0.heap.size ≤ a
  hg : w0.heap.size ≤ g
  hq : w0.heap.size ≤ q
  ok : ∀ p ∈ r.S, pcOk p
  ops : r.ar.ops ≤ N
section
variable {w0 w w' : World} {l a g q : Nat} {t : Int} {r r' : Rg} {N : Nat}
theorem StRg.next (h : StRg w0 w l a g q t r N) (hr : RgIs w' l a g q t r') (k : Turns [a, g, q] w w') (hok : ∀ p ∈ r'.S, pcOk p) {M : Nat} (hM : r'.ar.ops ≤ M) : StRg w0 w' l a g q t r' M :=
  ⟨hr, h.bel.trans (k.below (by simp [h.ha, h.hg, h.hq]) h.bel.size), h.hl, h.ha, h.hg, h.hq, hok, hM⟩
theorem StRg.below (h : StRg w0 w l a g q t r N) (k : Below w.heap.size w w') : StRg w0 w' l a g q t r N :=
  ⟨h.rg.below k, h.bel.trans (k.mono h.bel.size), h.hl, h.ha, h.hg, h.hq, h.ok, h.ops⟩
theorem ask_call (h : StRg w0 w l a g q t r N) (i : Int) (b : Bool) (hx : beginRg r i 0 1 = (r', b)) :
    Calls Tryz.prog 109 #[.pointer (some ⟨l, 0, none⟩), .int .i64 i] w fun e w' => e = .returned (.bool b) ∧ StRg w0 w' l a g q t r' N :=
  (ask_any h.rg i).mono fun _ _ ⟨he, hr, ht⟩ => by
    have hp := beginRg_pc h.ok i 0 1 (.inl ⟨by omega, by omega⟩)
    have ho := beginRg_ar r i 0 1
    rw [hx] at he hr hp ho
    exact ⟨he, h.next hr (ht.mono (by simp)) hp (by rw [show r'.ar = r.ar from ho]; exact h.ops)⟩
theorem leave_call (h : StRg w0 w l a g q t r N) (i v : Int) (b : Bool) (hx : withRg r i 11 v = (r', b)) :
    Calls Tryz.prog 112 #[.pointer (some ⟨l, 0, none⟩), .int .i64 i, .int .i64 v] w fun e w' => e = .returned (.bool b) ∧ StRg w0 w' l a g q t r' N :=
  (leave_any h.rg i v).mono fun _ _ ⟨he, hr, ht⟩ => by
    have hp := withRg_pc h.ok i 11 v (.inr ⟨by omega, by omega⟩)
    have ho := withRg_ar r i 11 v
    rw [hx] at he hr hp ho
    exact ⟨he, h.next hr (ht.mono (by simp)) hp (by rw [show r'.ar = r.ar from ho]; exact h.ops)⟩
theorem pass_call (h : StRg w0 w l a g q t r N) (i v : Int) (b : Bool) (hx : withRg r i 15 v = (r', b)) :
    Calls Tryz.prog 113 #[.pointer (some ⟨l, 0, none⟩), .int .i64 i, .int .i64 v] w fun e w' => e = .returned (.bool b) ∧ StRg w0 w' l a g q t r' N :=
  (pass_any h.rg i v).mono fun _ _ ⟨he, hr, ht⟩ => by
    have hp := withRg_pc h.ok i 15 v (.inr ⟨by omega, by omega⟩)
    have ho := withRg_ar r i 15 v
    rw [hx] at he hr hp ho
    exact ⟨he, h.next hr (ht.mono (by simp)) hp (by rw [show r'.ar = r.ar from ho]; exact h.ops)⟩
theorem step_call (h : StRg w0 w l a g q t r N) (i : Int) (b : Bool) (hN : N + 1 ≤ 1000000000000) (hx : stepRg r t i = (r', b)) :
    Calls Tryz.prog 62 #[.pointer (some ⟨l, 0, none⟩), .int .i64 i] w fun e w' => e = .returned (.bool b) ∧ StRg w0 w' l a g q t r' (N + 1) :=
  (step_any h.rg i (by have := h.ops; omega) h.ok).mono fun _ _ ⟨he, hr, ht⟩ => by
    have hp := stepRg_pc h.ok t i
    have ho := stepRg_ops r t i
    rw [hx] at he hr hp ho
    exact ⟨he, h.next hr ht hp (by have := h.ops; show r'.ar.ops ≤ N + 1; have : r'.ar.ops ≤ r.ar.ops + 1 := ho; omega)⟩
theorem spot_call (h : StRg w0 w l a g q t r N) (i : Int) (p : Sp) (hx : getS r.S i = p) :
    Calls Tryz.prog 63 #[.pointer (some ⟨l, 0, none⟩), .int .i64 i] w fun e w' => e = .returned (.agg #[.int .i64 p.pc, .int .i64 p.a, .int .i64 p.b, .int .i64 p.c]) ∧ StRg w0 w' l a g q t r N :=
  (spot_any h.rg i).mono fun _ _ ⟨he, hb⟩ => by rw [hx] at he; exact ⟨he, h.below hb⟩
end
def stepsRg : Nat → Rg → Int → Int → Rg × Bool
  | 0, r, _, _ => (r, false)
  | k + 1, r, t, i => if (stepRg r t i).2 then ((stepRg r t i).1, true) else stepsRg k (stepRg r t i).1 t i
def newR (room n : Nat) : Rg := ⟨⟨List.replicate (2 * n + 1) 0, room, 0, 0, 0, false⟩, List.replicate n Sp.zero⟩
end Go.Proofs.YtkdaiomjbkpedaaGreat
end
section
/- Layer 26: a rung is a queue: no two hold, and they hold in the order in which they came. Plain data. -/
namespace Go.Proofs.YtkdaiomjbkpedaaGreat
open Go.RowKit

def tlv (W : List Int) : Int := W.getD 0 0
def nxv (W : List Int) (i : Nat) : Int := W.getD (2 * i + 1) 0
def sgv (W : List Int) (i : Nat) : Int := W.getD (2 * i + 2) 0
theorem tlv_set (W : List Int) (i : Nat) (v : Int) (h : 0 < W.length) : tlv (W.set i v) = if i = 0 then v else tlv W := by
  unfold tlv; rw [getD_set]
  by_cases hi : i = 0
  · subst hi; simp [h]
  · simp [hi]
theorem nxv_set (W : List Int) (i j : Nat) (v : Int) (h : i < W.length) : nxv (W.set i v) j = if i = 2 * j + 1 then v else nxv W j := by
  unfold nxv; rw [getD_set]
  by_cases hi : i = 2 * j + 1
  · simp [hi, hi ▸ h]
  · simp [hi]
theorem sgv_set (W : List Int) (i j : Nat) (v : Int) (h : i < W.length) : sgv (W.set i v) j = if i = 2 * j + 2 then v else sgv W j := by
  unfold sgv; rw [getD_set]
  by_cases hi : i = 2 * j + 2
  · simp [hi, hi ▸ h]
  · simp [hi]
theorem nxA_at (j : Nat) (h : j < 1000) : nxA 1 ((j : Int) + 1) = 2 * j + 2 := by unfold nxA wrap64; omega
theorem stA_at (j : Nat) (h : j < 1000) : stA 1 ((j : Int) + 1) = 2 * j + 3 := by unfold stA wrap64; omega
section
variable {W : List Int} {n j : Nat}
theorem ld_tl (hw : W.length = 2 * n + 1) : ldW W 1 = tlv W := by unfold ldW inR tlv; rw [if_pos (decide_eq_true (by omega))]; rfl
theorem ld_nx (hw : W.length = 2 * n + 1) (hj : j < n) (hn : n ≤ 32) : ldW W (nxA 1 ((j : Int) + 1)) = nxv W j := by
  rw [nxA_at j (by omega)]
  unfold ldW inR nxv
  rw [if_pos (decide_eq_true (by omega)), show ((2 * (j : Int) + 2).toNat - 1) = 2 * j + 1 by omega]
theorem ld_st (hw : W.length = 2 * n + 1) (hj : j < n) (hn : n ≤ 32) : ldW W (stA 1 ((j : Int) + 1)) = sgv W j := by
  rw [stA_at j (by omega)]
  unfold ldW inR sgv
  rw [if_pos (decide_eq_true (by omega)), show ((2 * (j : Int) + 3).toNat - 1) = 2 * j + 2 by omega]
theorem st_tl (hw : W.length = 2 * n + 1) (v : Int) : stW W 1 v = W.set 0 v := by unfold stW inR; rw [if_pos (decide_eq_true (by omega))]; rfl
theorem st_nx (hw : W.length = 2 * n + 1) (hj : j < n) (hn : n ≤ 32) (v : Int) : stW W (nxA 1 ((j : Int) + 1)) v = W.set (2 * j + 1) v := by
  rw [nxA_at j (by omega)]
  unfold stW inR
  rw [if_pos (decide_eq_true (by omega)), show ((2 * (j : Int) + 2).toNat - 1) = 2 * j + 1 by omega]
theorem st_st (hw : W.length = 2 * n + 1) (hj : j < n) (hn : n ≤ 32) (v : Int) : stW W (stA 1 ((j : Int) + 1)) v = W.set (2 * j + 2) v := by
  rw [stA_at j (by omega)]
  unfold stW inR
  rw [if_pos (decide_eq_true (by omega)), show ((2 * (j : Int) + 3).toNat - 1) = 2 * j + 2 by omega]
end
theorem getElem?_snocQ {α : Type} (l : List α) (x : α) (i : Nat) : (l ++ [x])[i]? = if i < l.length then l[i]? else if i = l.length then some x else none := by
  split
  · rw [List.getElem?_append_left (by omega)]
  · split
    · subst i; simp
    · rw [List.getElem?_eq_none]; simp; omega
/-- the queue's tail word -/
def lastW (Q : List Nat) : Int := match Q.getLast? with | some j => (j : Int) + 1 | none => 0
structure QInv (n : Nat) (W : List Int) (S : List Sp) (Q : List Nat) : Prop where
  wl : W.length = 2 * n + 1
  sl : S.length = n
  nd : Q.Nodup
  lt : ∀ i ∈ Q, i < n
  tail : tlv W = lastW Q
  out : ∀ i, i < n → i ∉ Q → (0 ≤ (sv S i).pc ∧ (sv S i).pc ≤ 3) ∧ (2 ≤ (sv S i).pc → nxv W i = 0) ∧ ((sv S i).pc = 3 → sgv W i = 0)
  link : ∀ (k p s : Nat), Q[k]? = some p → Q[k + 1]? = some s → sgv W s = 0 ∧ (((sv S s).pc = 4 ∧ (sv S s).a = (p : Int) + 1 ∧ nxv W p = 0) ∨ ((sv S s).pc = 5 ∧ nxv W p = (s : Int) + 1))
  last : ∀ j, Q.getLast? = some j → nxv W j = 0
  head : ∀ h, Q[0]? = some h → ((sv S h).pc = 5 ∨ (sv S h).pc = 6 ∨ (10 ≤ (sv S h).pc ∧ (sv S h).pc ≤ 16)) ∧ ((sv S h).pc = 14 → ∃ s : Nat, Q[1]? = some s ∧ (sv S h).a = (s : Int) + 1 ∧ (sv S s).pc = 5) ∧ ((sv S h).pc = 16 → ∃ s : Nat, Q[1]? = some s ∧ (sv S h).b = (s : Int) + 1 ∧ (sv S s).pc = 5)
/-- who has come, and has not yet held -/
def pend (S : List Sp) : List Nat → List Nat
  | [] => []
  | h :: t => if 10 ≤ (sv S h).pc then t else h :: t
theorem nodup_idx {Q : List Nat} (h : Q.Nodup) {i j : Nat} {x : Nat} (hi : Q[i]? = some x) (hj : Q[j]? = some x) : i = j := by
  obtain ⟨h1, e1⟩ := List.getElem?_eq_some_iff.1 hi
  obtain ⟨h2, e2⟩ := List.getElem?_eq_some_iff.1 hj
  have := List.pairwise_iff_getElem.1 h
  rcases Nat.lt_trichotomy i j with hl | hl | hl
  · exact absurd (e1.trans e2.symm) (this i j h1 h2 hl)
  · exact hl
  · exact absurd (e2.trans e1.symm) (this j i h2 h1 hl)
theorem QInv.start (n : Nat) : QInv n (List.replicate (2 * n + 1) 0) (List.replicate n Sp.zero) [] := by
  have hz : ∀ k, (List.replicate (2 * n + 1) (0 : Int)).getD k 0 = 0 := fun k => by
    rw [List.getD_eq_getElem?_getD, List.getElem?_replicate]; split <;> rfl
  have hs : ∀ i, sv (List.replicate n Sp.zero) i = Sp.zero := fun i => by
    unfold sv; rw [List.getD_eq_getElem?_getD, List.getElem?_replicate]; split <;> rfl
  refine ⟨by simp, by simp, List.nodup_nil, by simp, hz 0, fun i _ _ => ?_, by simp, by simp, by simp⟩
  rw [hs]
  exact ⟨by decide, fun _ => hz _, fun _ => hz _⟩
/-- a slot that is not in the queue, and stays out of it: its own words and its spot alone turn -/
theorem QInv.outside {n : Nat} {W W' : List Int} {S : List Sp} {Q : List Nat} {i : Nat} {p' : Sp} (h : QInv n W S Q) (hi : i < n) (hQ : i ∉ Q) (hw : W'.length = 2 * n + 1) (ht : tlv W' = tlv W)
    (hnx : ∀ j, j ≠ i → nxv W' j = nxv W j) (hsg : ∀ j, j ≠ i → sgv W' j = sgv W j) (hp : (0 ≤ p'.pc ∧ p'.pc ≤ 3) ∧ (2 ≤ p'.pc → nxv W' i = 0) ∧ (p'.pc = 3 → sgv W' i = 0)) : QInv n W' (S.set i p') Q ∧ pend (S.set i p') Q = pend S Q := by
  have hne : ∀ j ∈ Q, j ≠ i := fun j hj e => hQ (e ▸ hj)
  have hsv : ∀ j, j ≠ i → sv (S.set i p') j = sv S j := fun j hj => by rw [sv_set, if_neg (fun e => hj e.1.symm)]
  have hsi : sv (S.set i p') i = p' := by rw [sv_set, if_pos ⟨rfl, by rw [h.sl]; exact hi⟩]
  refine ⟨⟨hw, by simp [h.sl], h.nd, h.lt, ht.trans h.tail, fun j hj hjQ => ?_, fun k p s hp' hs => ?_, fun j hj => ?_, fun a ha => ?_⟩, ?_⟩
  · by_cases e : j = i
    · subst e; rw [hsi]; exact hp
    · rw [hsv j e, hnx j e, hsg j e]; exact h.out j hj hjQ
  · have e1 := hne p (List.mem_of_getElem? hp')
    have e2 := hne s (List.mem_of_getElem? hs)
    rw [hsv s e2, hnx p e1, hsg s e2]
    exact h.link k p s hp' hs
  · rw [hnx j (hne j (List.mem_of_getLast? hj))]; exact h.last j hj
  · rw [hsv a (hne a (List.mem_of_getElem? ha))]
    obtain ⟨h1, h2, h3⟩ := h.head a ha
    refine ⟨h1, fun e => ?_, fun e => ?_⟩
    · obtain ⟨s, q1, q2, q3⟩ := h2 e
      exact ⟨s, q1, q2, by rw [hsv s (hne s (List.mem_of_getElem? q1))]; exact q3⟩
    · obtain ⟨s, q1, q2, q3⟩ := h3 e
      exact ⟨s, q1, q2, by rw [hsv s (hne s (List.mem_of_getElem? q1))]; exact q3⟩
  · cases Q with
    | nil => rfl
    | cons a t =>
      show (if 10 ≤ (sv (S.set i p') a).pc then t else a :: t) = (if 10 ≤ (sv S a).pc then t else a :: t)
      rw [hsv a (hne a (by simp))]
end Go.Proofs.YtkdaiomjbkpedaaGreat
end
section
/- Layer 26: a rung is a queue: each step. Plain data. -/
namespace Go.Proofs.YtkdaiomjbkpedaaGreat
open Go.RowKit

section
variable {n : Nat} {W W' : List Int} {S : List Sp} {Q : List Nat} {i : Nat} {p' : Sp}
theorem QInv.inq (h : QInv n W S Q) (hi : i ∈ Q) : (Q[0]? = some i ∧ ((sv S i).pc = 5 ∨ (sv S i).pc = 6 ∨ (10 ≤ (sv S i).pc ∧ (sv S i).pc ≤ 16))) ∨ (∃ (k p : Nat), Q[k]? = some p ∧ Q[k + 1]? = some i ∧ sgv W i = 0 ∧ (((sv S i).pc = 4 ∧ (sv S i).a = (p : Int) + 1 ∧ nxv W p = 0) ∨ ((sv S i).pc = 5 ∧ nxv W p = (i : Int) + 1))) := by
  obtain ⟨k, hk⟩ := List.getElem?_of_mem hi
  cases k with
  | zero => exact .inl ⟨hk, (h.head i hk).1⟩
  | succ k =>
    have hk' : k < Q.length := by have := (List.getElem?_eq_some_iff.1 hk).1; omega
    obtain ⟨p, hp⟩ := getElem?_lt hk'
    exact .inr ⟨k, p, hp, hk, h.link k p i hp hk⟩
theorem QInv.notq (h : QInv n W S Q) (hp : (sv S i).pc ≤ 3) : i ∉ Q := fun hi => by
  rcases h.inq hi with ⟨_, h⟩ | ⟨k, p, _, _, _, h⟩
  · omega
  · omega
/-- the head's own spot turns, and maybe its stat word -/
theorem QInv.headOnly (h : QInv n W S Q) (hi : Q[0]? = some i) (hw : W'.length = 2 * n + 1) (ht : tlv W' = tlv W) (hnx : ∀ j, nxv W' j = nxv W j) (hsg : ∀ j, j ≠ i → sgv W' j = sgv W j)
    (hp : (p'.pc = 5 ∨ p'.pc = 6 ∨ (10 ≤ p'.pc ∧ p'.pc ≤ 16)) ∧ (p'.pc = 14 → ∃ s : Nat, Q[1]? = some s ∧ p'.a = (s : Int) + 1 ∧ (sv S s).pc = 5) ∧ (p'.pc = 16 → ∃ s : Nat, Q[1]? = some s ∧ p'.b = (s : Int) + 1 ∧ (sv S s).pc = 5)) :
    QInv n W' (S.set i p') Q := by
  have hin : i < n := h.lt i (List.mem_of_getElem? hi)
  have hsv : ∀ j, j ≠ i → sv (S.set i p') j = sv S j := fun j hj => by rw [sv_set, if_neg (fun e => hj e.1.symm)]
  have hsi : sv (S.set i p') i = p' := by rw [sv_set, if_pos ⟨rfl, by rw [h.sl]; exact hin⟩]
  have hne : ∀ k s, Q[k + 1]? = some s → s ≠ i := fun k s hs e => by
    subst e
    have := nodup_idx h.nd hs hi
    omega
  refine ⟨hw, by simp [h.sl], h.nd, h.lt, ht.trans h.tail, fun j hj hjQ => ?_, fun k p s hp' hs => ?_, fun j hj => ?_, fun a ha => ?_⟩
  · have e : j ≠ i := fun e => hjQ (e ▸ List.mem_of_getElem? hi)
    rw [hsv j e, hnx j, hsg j e]; exact h.out j hj hjQ
  · have e2 := hne k s hs
    rw [hsv s e2, hnx p, hsg s e2]
    exact h.link k p s hp' hs
  · rw [hnx j]; exact h.last j hj
  · have : a = i := by rw [hi] at ha; injection ha with ha; exact ha.symm
    subst this
    rw [hsi]
    refine ⟨hp.1, fun e => ?_, fun e => ?_⟩
    · obtain ⟨s, q1, q2, q3⟩ := hp.2.1 e
      exact ⟨s, q1, q2, by rw [hsv s (hne 0 s q1)]; exact q3⟩
    · obtain ⟨s, q1, q2, q3⟩ := hp.2.2 e
      exact ⟨s, q1, q2, by rw [hsv s (hne 0 s q1)]; exact q3⟩
/-- one who stands behind another one: its own spot turns, and maybe the next word of the one ahead -/
theorem QInv.behind (h : QInv n W S Q) {k p : Nat} (hp : Q[k]? = some p) (hi : Q[k + 1]? = some i) (hw : W'.length = 2 * n + 1) (ht : tlv W' = tlv W) (hnx : ∀ j, j ≠ p → nxv W' j = nxv W j) (hsg : ∀ j, sgv W' j = sgv W j)
    (hc : p'.pc = 5 ∧ nxv W' p = (i : Int) + 1) : QInv n W' (S.set i p') Q := by
  have hin : i < n := h.lt i (List.mem_of_getElem? hi)
  have hsv : ∀ j, j ≠ i → sv (S.set i p') j = sv S j := fun j hj => by rw [sv_set, if_neg (fun e => hj e.1.symm)]
  have hsi : sv (S.set i p') i = p' := by rw [sv_set, if_pos ⟨rfl, by rw [h.sl]; exact hin⟩]
  refine ⟨hw, by simp [h.sl], h.nd, h.lt, ht.trans h.tail, fun j hj hjQ => ?_, fun k2 p2 s2 hp2 hs2 => ?_, fun j hj => ?_, fun a ha => ?_⟩
  · have e : j ≠ i := fun e => hjQ (e ▸ List.mem_of_getElem? hi)
    have e2 : j ≠ p := fun e => hjQ (e ▸ List.mem_of_getElem? hp)
    rw [hsv j e, hnx j e2, hsg j]; exact h.out j hj hjQ
  · by_cases e : s2 = i
    · subst e
      obtain rfl : k2 = k := by have := nodup_idx h.nd hs2 hi; omega
      rw [hp] at hp2
      injection hp2 with hp2
      subst hp2
      rw [hsi, hsg]
      exact ⟨(h.link k2 p s2 hp hs2).1, .inr hc⟩
    · have e2 : p2 ≠ p := fun e3 => by
        subst e3
        have := nodup_idx h.nd hp2 hp
        subst this
        rw [hi] at hs2
        injection hs2 with hs2
        exact e hs2.symm
      rw [hsv s2 e, hnx p2 e2, hsg]
      exact h.link k2 p2 s2 hp2 hs2
  · have e2 : j ≠ p := fun e3 => by
      subst e3
      rw [List.getLast?_eq_getElem?] at hj
      have := nodup_idx h.nd hj hp
      have := (List.getElem?_eq_some_iff.1 hi).1
      omega
    rw [hnx j e2]; exact h.last j hj
  · have e : a ≠ i := fun e => by
      subst e
      have := nodup_idx h.nd ha hi
      omega
    rw [hsv a e]
    obtain ⟨h1, h2, h3⟩ := h.head a ha
    have h5 : ∀ s : Nat, (sv S s).pc = 5 → (sv (S.set i p') s).pc = 5 := fun s hs => by
      by_cases e : s = i
      · subst e; rw [hsi]; exact hc.1
      · rw [hsv s e]; exact hs
    refine ⟨h1, fun e => ?_, fun e => ?_⟩
    · obtain ⟨s, q1, q2, q3⟩ := h2 e
      exact ⟨s, q1, q2, h5 s q3⟩
    · obtain ⟨s, q1, q2, q3⟩ := h3 e
      exact ⟨s, q1, q2, h5 s q3⟩
/-- the head goes, and the one behind it is told a value -/
theorem QInv.pop (h : QInv n W S Q) {s : Nat} (hi : Q[0]? = some i) (hs : Q[1]? = some s) (h5 : (sv S s).pc = 5) (hw : W'.length = 2 * n + 1) (ht : tlv W' = tlv W) (hnx : ∀ j, nxv W' j = nxv W j) (hsg : ∀ j, j ≠ s → sgv W' j = sgv W j)
    (hp : p'.pc = 0) : QInv n W' (S.set i p') Q.tail ∧ pend (S.set i p') Q.tail = Q.tail := by
  have hin : i < n := h.lt i (List.mem_of_getElem? hi)
  have hsv : ∀ j, j ≠ i → sv (S.set i p') j = sv S j := fun j hj => by rw [sv_set, if_neg (fun e => hj e.1.symm)]
  have hsi : sv (S.set i p') i = p' := by rw [sv_set, if_pos ⟨rfl, by rw [h.sl]; exact hin⟩]
  have hne : ∀ k s, Q[k + 1]? = some s → s ≠ i := fun k s hs e => by
    subst e
    have := nodup_idx h.nd hs hi
    omega
  match Q, hi, hs with
  | a :: s' :: t, hi, hs =>
    simp at hi hs
    subst hi hs
    have hsne := hne 0 s' rfl
    refine ⟨⟨hw, by simp [h.sl], (List.nodup_cons.1 h.nd).2, fun j hj => h.lt j (List.mem_cons_of_mem _ hj), ?_, fun j hj hjQ => ?_, fun k p s2 hp' hs2 => ?_, fun j hj => ?_, fun b hb => ?_⟩, ?_⟩
    · rw [ht, h.tail]; unfold lastW; rw [List.tail_cons, List.getLast?_cons_cons]
    · by_cases e : j = a
      · subst e
        rw [hsi, hp]
        exact ⟨⟨by decide, by decide⟩, fun h => absurd h (by decide), fun h => absurd h (by decide)⟩
      · have hjQ' : j ∉ a :: s' :: t := by
          intro hm
          rcases List.mem_cons.1 hm with hm | hm
          · exact e hm
          · exact hjQ hm
        have e2 : j ≠ s' := fun e2 => hjQ (by rw [e2]; simp)
        rw [hsv j e, hnx j, hsg j e2]
        exact h.out j hj hjQ'
    · rw [List.tail_cons] at hp' hs2
      have e2 := hne (k + 1) s2 (by simpa using hs2)
      have e3 : s2 ≠ s' := fun e3 => by
        subst e3
        have := nodup_idx (List.nodup_cons.1 h.nd).2 hs2 (show (s2 :: t)[0]? = some s2 from rfl)
        omega
      rw [hsv s2 e2, hnx p, hsg s2 e3]
      exact h.link (k + 1) p s2 (by simpa using hp') (by simpa using hs2)
    · rw [hnx j]
      exact h.last j (by rw [List.getLast?_cons_cons]; exact hj)
    · rw [List.tail_cons] at hb
      have : b = s' := by simpa using hb.symm
      subst this
      rw [hsv b hsne, h5]
      exact ⟨.inl rfl, fun e => absurd e (by decide), fun e => absurd e (by decide)⟩
    · show (if 10 ≤ (sv (S.set a p') s').pc then t else s' :: t) = s' :: t
      rw [hsv s' hsne, h5]; rfl
/-- the only one goes -/
theorem QInv.gone (h : QInv n W S [i]) (hw : W'.length = 2 * n + 1) (ht : tlv W' = 0) (hnx : ∀ j, nxv W' j = nxv W j) (hsg : ∀ j, sgv W' j = sgv W j) (hp : p'.pc = 0) : QInv n W' (S.set i p') [] := by
  have hin : i < n := h.lt i (by simp)
  refine ⟨hw, by simp [h.sl], List.nodup_nil, by simp, ht, fun j hj _ => ?_, by simp, by simp, by simp⟩
  by_cases e : j = i
  · subst e
    rw [sv_set, if_pos ⟨rfl, by rw [h.sl]; exact hin⟩, hp]
    exact ⟨⟨by decide, by decide⟩, fun h => absurd h (by decide), fun h => absurd h (by decide)⟩
  · rw [sv_set, if_neg (fun e' => e e'.1.symm), hnx, hsg]
    exact h.out j hj (by simpa using e)
/-- one comes, behind all others -/
theorem QInv.come (h : QInv n W S Q) (hi : i < n) (hpc : (sv S i).pc = 3) (hw : W'.length = 2 * n + 1) (ht : tlv W' = (i : Int) + 1) (hnx : ∀ j, nxv W' j = nxv W j) (hsg : ∀ j, sgv W' j = sgv W j)
    (hp : p'.a = tlv W ∧ p'.pc = if tlv W = 0 then 6 else 4) : QInv n W' (S.set i p') (Q ++ [i]) ∧ pend (S.set i p') (Q ++ [i]) = pend S Q ++ [i] := by
  have hQ : i ∉ Q := h.notq (by omega)
  have ho := h.out i hi hQ
  have hsv : ∀ j, j ≠ i → sv (S.set i p') j = sv S j := fun j hj => by rw [sv_set, if_neg (fun e => hj e.1.symm)]
  have hsi : sv (S.set i p') i = p' := by rw [sv_set, if_pos ⟨rfl, by rw [h.sl]; exact hi⟩]
  have hne : ∀ j ∈ Q, j ≠ i := fun j hj e => hQ (e ▸ hj)
  have hlast : ∀ j, Q.getLast? = some j → tlv W = (j : Int) + 1 := fun j hj => by rw [h.tail]; unfold lastW; rw [hj]
  refine ⟨⟨hw, by simp [h.sl], ?_, ?_, ?_, fun j hj hjQ => ?_, fun k p s hp' hs => ?_, fun j hj => ?_, fun a ha => ?_⟩, ?_⟩
  · rw [List.nodup_append]
    exact ⟨h.nd, by simp, fun a ha b hb => by rw [List.mem_singleton.1 hb]; exact hne a ha⟩
  · intro j hj
    rcases List.mem_append.1 hj with hj | hj
    · exact h.lt j hj
    · rw [List.mem_singleton.1 hj]; exact hi
  · rw [ht]; unfold lastW; rw [List.getLast?_concat]
  · have hjQ' : j ∉ Q := fun hm => hjQ (List.mem_append.2 (.inl hm))
    have e : j ≠ i := fun e => hjQ (List.mem_append.2 (.inr (by simp [e])))
    rw [hsv j e, hnx, hsg]; exact h.out j hj hjQ'
  · rw [getElem?_snocQ] at hp' hs
    split at hs
    · rename_i hk
      rw [if_pos (by omega)] at hp'
      have e := hne s (List.mem_of_getElem? hs)
      rw [hsv s e, hnx, hsg]
      exact h.link k p s hp' hs
    · split at hs
      · rename_i hk hk2
        injection hs with hs
        subst hs
        rw [if_pos (by omega)] at hp'
        have hl : Q.getLast? = some p := by rw [List.getLast?_eq_getElem?, ← hp']; congr 1; omega
        have ht0 := hlast p hl
        rw [hsi, hnx, hsg]
        refine ⟨ho.2.2 hpc, .inl ⟨by rw [hp.2, if_neg (by omega)], by rw [hp.1, ht0], h.last p hl⟩⟩
      · cases hs
  · rw [List.getLast?_concat] at hj
    injection hj with hj
    subst hj
    rw [hnx]; exact ho.2.1 (by omega)
  · cases Q with
    | nil =>
      have : a = i := by simpa using ha.symm
      subst this
      have h0 : tlv W = 0 := by rw [h.tail]; rfl
      rw [hsi, hp.2, if_pos h0]
      exact ⟨.inr (.inl rfl), fun e => absurd e (by decide), fun e => absurd e (by decide)⟩
    | cons b t =>
      have : b = a := by simpa using ha
      subst this
      rw [hsv b (hne b (by simp))]
      obtain ⟨h1, h2, h3⟩ := h.head b rfl
      have ext : ∀ s : Nat, (b :: t)[1]? = some s → (b :: t ++ [i])[1]? = some s := fun s hs => by
        rw [getElem?_snocQ, if_pos (List.getElem?_eq_some_iff.1 hs).1]; exact hs
      refine ⟨h1, fun e => ?_, fun e => ?_⟩
      · obtain ⟨s, q1, q2, q3⟩ := h2 e
        exact ⟨s, ext s q1, q2, by rw [hsv s (hne s (List.mem_of_getElem? q1))]; exact q3⟩
      · obtain ⟨s, q1, q2, q3⟩ := h3 e
        exact ⟨s, ext s q1, q2, by rw [hsv s (hne s (List.mem_of_getElem? q1))]; exact q3⟩
  · cases Q with
    | nil =>
      have h0 : tlv W = 0 := by rw [h.tail]; rfl
      show (if 10 ≤ (sv (S.set i p') i).pc then [] else [i]) = [i]
      rw [hsi, hp.2, if_pos h0]; rfl
    | cons b t =>
      show (if 10 ≤ (sv (S.set i p') b).pc then t ++ [i] else b :: (t ++ [i])) = (if 10 ≤ (sv S b).pc then t else b :: t) ++ [i]
      rw [hsv b (hne b (by simp))]
      split <;> simp
end
end Go.Proofs.YtkdaiomjbkpedaaGreat
end
