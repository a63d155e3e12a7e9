/- Joined: FlU, FlV, FlD. -/
import Derived.Handy
import Derived.Test.YtfiigndlnihioaaGreatMgFamilyDoorway1
import Derived.Test.YtfiigndlnihioaaGreatMgFamilyDoorway4
section
/- Layer 18 (mcs): next, wait; in and out, a step at a time (printed by gen_flm.py). -/
namespace Go.Proofs.YtfiigndlnihioaaGreat
open Go.RowKit

section
variable {w w' : World} {a g k : Nat} {x : Fx} {s : Ar} {S : List Sp}
theorem KIs.mi (h : KIs w a g 4 x s S) : w.cell? ⟨x.l, 0, none⟩ = some (.pointer (some ⟨a, 0, none⟩)) ∧ w.cell? ⟨x.l, 1, none⟩ = some (.int .i64 x.t) := ⟨h.lk.cell 0, h.lk.cell 1⟩
theorem KIs.samS {i : Nat} {p : Sp} (h : KIs w a g k x s S) (hp : S[i]? = some p) : KIs w a g k x s (S.set i p) := by rw [setS_id hp]; exact h
theorem next_mcs (h : KIs w a g 4 x s S) (y : Int) (hy : -10 ≤ y ∧ y ≤ 10000000000000) : Calls Tryz.prog 232 #[.pointer (some ⟨x.l, 0, none⟩), .int .i64 y] w fun e w' => e = .returned (.int .i64 (mNx x.t y)) ∧ w = w' := by
  have c1 := h.mi.2
  have t1 := h.t1
  have x1 : IntKind.i64.wrap (2 * y) = 2 * y := IntWalk.i64_in _ (by omega)
  have x2 : IntKind.i64.wrap ((x.t : Int) + 2 * y) = (x.t : Int) + 2 * y := IntWalk.i64_in _ (by omega)
  have x3 : IntKind.i64.wrap ((x.t : Int) + 2 * y - 1) = (x.t : Int) + 2 * y - 1 := IntWalk.i64_in _ (by omega)
  clear h
  go_enter Tryz.func232, Tryz.ntmps232
  go_wp2
  go_ret
  exact ⟨rfl, rfl⟩
theorem wait_mcs (h : KIs w a g 4 x s S) (y : Int) (hy : -10 ≤ y ∧ y ≤ 10000000000000) : Calls Tryz.prog 238 #[.pointer (some ⟨x.l, 0, none⟩), .int .i64 y] w fun e w' => e = .returned (.int .i64 (mWt x.t y)) ∧ w = w' := by
  have c1 := h.mi.2
  have t1 := h.t1
  have x1 : IntKind.i64.wrap (2 * y) = 2 * y := IntWalk.i64_in _ (by omega)
  have x2 : IntKind.i64.wrap ((x.t : Int) + 2 * y) = (x.t : Int) + 2 * y := IntWalk.i64_in _ (by omega)
  clear h
  go_enter Tryz.func238, Tryz.ntmps238
  go_wp2
  go_ret
  exact ⟨rfl, rfl⟩
def MidK (w : World) (a g : Nat) (x : Fx) (S : List Sp) (i : Nat) (p : Sp) (r : Ar × Sp) (e : Ending) (w' : World) : Prop :=
  e = .returned (.int .i64 r.2.pc) ∧ KIs w' a g 4 x r.1 (S.set i { r.2 with pc := p.pc }) ∧ Turns [a, g, x.q] w w'
set_option maxRecDepth 100000 in
set_option maxHeartbeats 2000000 in
theorem m_in1 (h : KIs w a g 4 x s S) (i : Nat) (hin : i < x.n) (u b z : Int) (hp : S[i]? = some (⟨1, u, b, z⟩ : Sp)) (ho : s.ops + 1 ≤ 1000000000000) :
    Calls Tryz.prog 236 #[.pointer (some ⟨x.l, 0, none⟩), .pointer (some ⟨x.q, i * 4, none⟩), .int .i64 ((i : Int) + 1)] w (MidK w a g x S i (⟨1, u, b, z⟩ : Sp) (mcsIn x.t s ((i : Int) + 1) (⟨1, u, b, z⟩ : Sp))) := by
  have hn := h.n32
  have e0 := h.sp.cell hp 0 _ rfl
  simp only [Nat.add_zero] at e0
  obtain ⟨ar', har⟩ : ∃ q, q = storeA s (mNx x.t ((i : Int) + 1)) 0 := ⟨_, rfl⟩
  have HX : Hid (mcsIn x.t s ((i : Int) + 1) (⟨1, u, b, z⟩ : Sp) = (ar', ⟨2, u, b, z⟩)) := Lib.hid (by rw [har]; rfl)
  have HF := Lib.hid (fun W (k : KIs W a g 4 x s S) => next_mcs k ((i : Int) + 1) (by omega))
  have HO0 := (fun W (k : KIs W a g 4 x s S) => store_any k.ar (mNx x.t ((i : Int) + 1)) 0 ho)
  rw [← har] at HO0
  have HO := Lib.hid HO0
  have HC := Lib.hid (fun W s (S : List Sp) (k : KIs W a g 4 x s S) (hp : S[i]? = some (⟨1, u, b, z⟩ : Sp)) => k.mi.1)
  have HP := Lib.hid hp
  have HL := Lib.hid (show i < S.length by rw [h.n]; exact hin)
  have K1 := Lib.hid (h.below ((Below.refl _ w).drew))
  clear HO0 h hp har
  go_enter Tryz.func236, Tryz.ntmps236
  go_wp2_with fail
  go_region_held3 (fun W => W.cell? ⟨x.l, 0, none⟩ = some (.pointer (some ⟨a, 0, none⟩)))
    (first | with_reducible exact HC.out _ _ _ K1.out HP.out | with_reducible exact HC.out _ _ _ K2.out HP.out)
    (first
      | (go_at_call 232; go_loud (refine (HF.out _ K1.out).mono ?_); rintro en w2 ⟨rfl, rfl⟩)
      | (go_at_call 89; go_loud (refine (HO.out _ K1.out).mono ?_); rintro en w3 ⟨rfl, a3, t3⟩; have K2 := Lib.hid (K1.out.op t3 a3); have T2 := Lib.hid (((Turns.refl [a, g, x.q] w).drew).trans (turns_agq t3)); clear a3 t3))
  all_goals
    go_wp2
    go_ret
    rw [HX.out]
    exact ⟨rfl, K2.out.samS HP.out, T2.out⟩
set_option maxRecDepth 100000 in
set_option maxHeartbeats 2000000 in
theorem m_in2 (h : KIs w a g 4 x s S) (i : Nat) (hin : i < x.n) (u b z : Int) (hp : S[i]? = some (⟨2, u, b, z⟩ : Sp)) (ho : s.ops + 1 ≤ 1000000000000) :
    Calls Tryz.prog 236 #[.pointer (some ⟨x.l, 0, none⟩), .pointer (some ⟨x.q, i * 4, none⟩), .int .i64 ((i : Int) + 1)] w (MidK w a g x S i (⟨2, u, b, z⟩ : Sp) (mcsIn x.t s ((i : Int) + 1) (⟨2, u, b, z⟩ : Sp))) := by
  have hn := h.n32
  have e0 := h.sp.cell hp 0 _ rfl
  simp only [Nat.add_zero] at e0
  obtain ⟨ar', har⟩ : ∃ q, q = storeA s (mWt x.t ((i : Int) + 1)) 1 := ⟨_, rfl⟩
  have HX : Hid (mcsIn x.t s ((i : Int) + 1) (⟨2, u, b, z⟩ : Sp) = (ar', ⟨3, u, b, z⟩)) := Lib.hid (by rw [har]; rfl)
  have HF := Lib.hid (fun W (k : KIs W a g 4 x s S) => wait_mcs k ((i : Int) + 1) (by omega))
  have HO0 := (fun W (k : KIs W a g 4 x s S) => store_any k.ar (mWt x.t ((i : Int) + 1)) 1 ho)
  rw [← har] at HO0
  have HO := Lib.hid HO0
  have HC := Lib.hid (fun W s (S : List Sp) (k : KIs W a g 4 x s S) (hp : S[i]? = some (⟨2, u, b, z⟩ : Sp)) => k.mi.1)
  have HP := Lib.hid hp
  have HL := Lib.hid (show i < S.length by rw [h.n]; exact hin)
  have K1 := Lib.hid (h.below ((Below.refl _ w).drew))
  clear HO0 h hp har
  go_enter Tryz.func236, Tryz.ntmps236
  go_wp2_with fail
  go_region_held3 (fun W => W.cell? ⟨x.l, 0, none⟩ = some (.pointer (some ⟨a, 0, none⟩)))
    (first | with_reducible exact HC.out _ _ _ K1.out HP.out | with_reducible exact HC.out _ _ _ K2.out HP.out)
    (first
      | (go_at_call 238; go_loud (refine (HF.out _ K1.out).mono ?_); rintro en w2 ⟨rfl, rfl⟩)
      | (go_at_call 89; go_loud (refine (HO.out _ K1.out).mono ?_); rintro en w3 ⟨rfl, a3, t3⟩; have K2 := Lib.hid (K1.out.op t3 a3); have T2 := Lib.hid (((Turns.refl [a, g, x.q] w).drew).trans (turns_agq t3)); clear a3 t3))
  all_goals
    go_wp2
    go_ret
    rw [HX.out]
    exact ⟨rfl, K2.out.samS HP.out, T2.out⟩
set_option maxRecDepth 100000 in
set_option maxHeartbeats 2000000 in
theorem m_in4 (h : KIs w a g 4 x s S) (i : Nat) (hin : i < x.n) (u b z : Int) (hp : S[i]? = some (⟨4, u, b, z⟩ : Sp)) (ho : s.ops + 1 ≤ 1000000000000) (hu : -10 ≤ u ∧ u ≤ 10000000000000) :
    Calls Tryz.prog 236 #[.pointer (some ⟨x.l, 0, none⟩), .pointer (some ⟨x.q, i * 4, none⟩), .int .i64 ((i : Int) + 1)] w (MidK w a g x S i (⟨4, u, b, z⟩ : Sp) (mcsIn x.t s ((i : Int) + 1) (⟨4, u, b, z⟩ : Sp))) := by
  have hn := h.n32
  have e0 := h.sp.cell hp 0 _ rfl
  simp only [Nat.add_zero] at e0
  obtain ⟨ar', har⟩ : ∃ q, q = storeA s (mNx x.t u) ((i : Int) + 1) := ⟨_, rfl⟩
  have HX : Hid (mcsIn x.t s ((i : Int) + 1) (⟨4, u, b, z⟩ : Sp) = (ar', ⟨5, u, b, z⟩)) := Lib.hid (by rw [har]; rfl)
  have HF := Lib.hid (fun W (k : KIs W a g 4 x s S) => next_mcs k u (by exact hu))
  have HO0 := (fun W (k : KIs W a g 4 x s S) => store_any k.ar (mNx x.t u) ((i : Int) + 1) ho)
  rw [← har] at HO0
  have HO := Lib.hid HO0
  have HC := Lib.hid (fun W s (S : List Sp) (k : KIs W a g 4 x s S) (hp : S[i]? = some (⟨4, u, b, z⟩ : Sp)) => (And.intro k.mi.1 (k.sp.cell hp 1 _ rfl)))
  have HP := Lib.hid hp
  have HL := Lib.hid (show i < S.length by rw [h.n]; exact hin)
  have K1 := Lib.hid (h.below ((Below.refl _ w).drew))
  clear HO0 h hp har
  go_enter Tryz.func236, Tryz.ntmps236
  go_wp2_with fail
  go_region_held3 (fun W => W.cell? ⟨x.l, 0, none⟩ = some (.pointer (some ⟨a, 0, none⟩)) ∧ W.cell? ⟨x.q, i * 4 + 1, none⟩ = some (.int .i64 u))
    (first | with_reducible exact HC.out _ _ _ K1.out HP.out | with_reducible exact HC.out _ _ _ K2.out HP.out)
    (first
      | (go_at_call 232; go_loud (refine (HF.out _ K1.out).mono ?_); rintro en w2 ⟨rfl, rfl⟩)
      | (go_at_call 89; go_loud (refine (HO.out _ K1.out).mono ?_); rintro en w3 ⟨rfl, a3, t3⟩; have K2 := Lib.hid (K1.out.op t3 a3); have T2 := Lib.hid (((Turns.refl [a, g, x.q] w).drew).trans (turns_agq t3)); clear a3 t3))
  all_goals
    go_wp2
    go_ret
    rw [HX.out]
    exact ⟨rfl, K2.out.samS HP.out, T2.out⟩
set_option maxRecDepth 100000 in
set_option maxHeartbeats 2000000 in
theorem m_in3 (h : KIs w a g 4 x s S) (i : Nat) (hin : i < x.n) (u b z : Int) (hp : S[i]? = some (⟨3, u, b, z⟩ : Sp)) (ho : s.ops + 1 ≤ 1000000000000) :
    Calls Tryz.prog 236 #[.pointer (some ⟨x.l, 0, none⟩), .pointer (some ⟨x.q, i * 4, none⟩), .int .i64 ((i : Int) + 1)] w (MidK w a g x S i (⟨3, u, b, z⟩ : Sp) (mcsIn x.t s ((i : Int) + 1) (⟨3, u, b, z⟩ : Sp))) := by
  have hn := h.n32
  have e0 := h.sp.cell hp 0 _ rfl
  simp only [Nat.add_zero] at e0
  obtain ⟨ar', har⟩ : ∃ q, q = swapA s (x.t : Int) ((i : Int) + 1) := ⟨_, rfl⟩
  obtain ⟨v, hv⟩ : ∃ v, v = ldW s.W (x.t : Int) := ⟨_, rfl⟩
  have HX : Hid (mcsIn x.t s ((i : Int) + 1) (⟨3, u, b, z⟩ : Sp) = (ar', (⟨if v = 0 then 10 else 4, v, b, z⟩ : Sp))) := Lib.hid (by rw [har, hv]; rfl)
  have HO0 := (fun W (k : KIs W a g 4 x s S) => swap_any k.ar (x.t : Int) ((i : Int) + 1) ho)
  rw [← har, ← hv] at HO0
  have HO := Lib.hid HO0
  have HC := Lib.hid (fun W s (S : List Sp) (y : Int) (k : KIs W a g 4 x s S) (hp : S[i]? = some (⟨3, y, b, z⟩ : Sp)) => (And.intro k.mi.1 k.mi.2))
  have HP := Lib.hid hp
  have HL := Lib.hid (show i < S.length by rw [h.n]; exact hin)
  have K1 := Lib.hid (h.below ((Below.refl _ w).drew))
  clear HO0 h hp har hv
  cases hc : (v == 0)
  all_goals
    go_enter Tryz.func236, Tryz.ntmps236
    go_wp2_with fail
    go_region_held3 (fun W => W.cell? ⟨x.l, 0, none⟩ = some (.pointer (some ⟨a, 0, none⟩)) ∧ W.cell? ⟨x.l, 1, none⟩ = some (.int .i64 x.t))
      (first | with_reducible exact HC.out _ _ _ _ K1.out HP.out | with_reducible exact HC.out _ _ _ _ K2.out HP.out | with_reducible exact HC3.out)
      (first
        | (go_at_call 239; go_loud (refine (HO.out _ K1.out).mono ?_); rintro en w3 ⟨rfl, a3, t3⟩; have K2 := Lib.hid (K1.out.op t3 a3); have T2 := Lib.hid (((Turns.refl [a, g, x.q] w).drew).trans (turns_agq t3)); have K3 := Lib.hid (K2.out.put (p' := (⟨3, v, b, z⟩ : Sp)) HP.out (j := 1) (u := .int .i64 v) (by decide) rfl); have HC3 := Lib.hid (HC.out _ _ _ v K3.out (getS_set HP.out _)); have e1 := K2.out.sp.cell HP.out 1 _ rfl; have z1 := K2.out.sp.free (i * 4 + 1); clear a3 t3))
  all_goals
    go_wp2
    go_ret
    rw [HX.out]
    first
      | (rw [if_pos (by simpa using hc)]; exact ⟨rfl, K3.out, T2.out.trans (turns_qag (turns_q _ _ _))⟩)
      | (rw [if_neg (by simpa using hc)]; exact ⟨rfl, K3.out, T2.out.trans (turns_qag (turns_q _ _ _))⟩)
set_option maxRecDepth 100000 in
set_option maxHeartbeats 2000000 in
theorem m_in5 (h : KIs w a g 4 x s S) (i : Nat) (hin : i < x.n) (u b z : Int) (hp : S[i]? = some (⟨5, u, b, z⟩ : Sp)) (ho : s.ops + 1 ≤ 1000000000000) :
    Calls Tryz.prog 236 #[.pointer (some ⟨x.l, 0, none⟩), .pointer (some ⟨x.q, i * 4, none⟩), .int .i64 ((i : Int) + 1)] w (MidK w a g x S i (⟨5, u, b, z⟩ : Sp) (mcsIn x.t s ((i : Int) + 1) (⟨5, u, b, z⟩ : Sp))) := by
  have hn := h.n32
  have e0 := h.sp.cell hp 0 _ rfl
  simp only [Nat.add_zero] at e0
  obtain ⟨ar', har⟩ : ∃ q, q = loadA s (mWt x.t ((i : Int) + 1))  := ⟨_, rfl⟩
  obtain ⟨v, hv⟩ : ∃ v, v = ldW s.W (mWt x.t ((i : Int) + 1)) := ⟨_, rfl⟩
  have HX : Hid (mcsIn x.t s ((i : Int) + 1) (⟨5, u, b, z⟩ : Sp) = (ar', (⟨if v = 0 then 10 else 5, u, b, z⟩ : Sp))) := Lib.hid (by rw [har, hv]; rfl)
  have HF := Lib.hid (fun W (k : KIs W a g 4 x s S) => wait_mcs k ((i : Int) + 1) (by omega))
  have HO0 := (fun W (k : KIs W a g 4 x s S) => load_any k.ar (mWt x.t ((i : Int) + 1))  ho)
  rw [← har, ← hv] at HO0
  have HO := Lib.hid HO0
  have HC := Lib.hid (fun W s (S : List Sp) (k : KIs W a g 4 x s S) (hp : S[i]? = some (⟨5, u, b, z⟩ : Sp)) => k.mi.1)
  have HP := Lib.hid hp
  have HL := Lib.hid (show i < S.length by rw [h.n]; exact hin)
  have K1 := Lib.hid (h.below ((Below.refl _ w).drew))
  clear HO0 h hp har hv
  cases hc : (v == 0)
  all_goals
    go_enter Tryz.func236, Tryz.ntmps236
    go_wp2_with fail
    go_region_held3 (fun W => W.cell? ⟨x.l, 0, none⟩ = some (.pointer (some ⟨a, 0, none⟩)))
      (first | with_reducible exact HC.out _ _ _ K1.out HP.out | with_reducible exact HC.out _ _ _ K2.out HP.out)
      (first
        | (go_at_call 238; go_loud (refine (HF.out _ K1.out).mono ?_); rintro en w2 ⟨rfl, rfl⟩)
        | (go_at_call 88; go_loud (refine (HO.out _ K1.out).mono ?_); rintro en w3 ⟨rfl, a3, t3⟩; have K2 := Lib.hid (K1.out.op t3 a3); have T2 := Lib.hid (((Turns.refl [a, g, x.q] w).drew).trans (turns_agq t3)); clear a3 t3))
  all_goals
    go_wp2
    go_ret
    rw [HX.out]
    first
      | (rw [if_pos (by simpa using hc)]; exact ⟨rfl, K2.out.samS HP.out, T2.out⟩)
      | (rw [if_neg (by simpa using hc)]; exact ⟨rfl, K2.out.samS HP.out, T2.out⟩)
set_option maxRecDepth 100000 in
set_option maxHeartbeats 2000000 in
theorem m_out12 (h : KIs w a g 4 x s S) (i : Nat) (hin : i < x.n) (u b z : Int) (hp : S[i]? = some (⟨12, u, b, z⟩ : Sp)) (ho : s.ops + 1 ≤ 1000000000000) :
    Calls Tryz.prog 237 #[.pointer (some ⟨x.l, 0, none⟩), .pointer (some ⟨x.q, i * 4, none⟩), .int .i64 ((i : Int) + 1)] w (MidK w a g x S i (⟨12, u, b, z⟩ : Sp) (mcsOut x.t s ((i : Int) + 1) (⟨12, u, b, z⟩ : Sp))) := by
  have hn := h.n32
  have e0 := h.sp.cell hp 0 _ rfl
  simp only [Nat.add_zero] at e0
  obtain ⟨ar', har⟩ : ∃ q, q = casA s (x.t : Int) ((i : Int) + 1) 0 := ⟨_, rfl⟩
  obtain ⟨v, hv⟩ : ∃ v, v = casB s (x.t : Int) ((i : Int) + 1) := ⟨_, rfl⟩
  have HX : Hid (mcsOut x.t s ((i : Int) + 1) (⟨12, u, b, z⟩ : Sp) = (ar', (⟨if v = true then 0 else 13, u, b, z⟩ : Sp))) := Lib.hid (by rw [har, hv]; rfl)
  have HO0 := (fun W (k : KIs W a g 4 x s S) => cas_any k.ar (x.t : Int) ((i : Int) + 1) 0 ho)
  rw [← har, ← hv] at HO0
  have HO := Lib.hid HO0
  have HC := Lib.hid (fun W s (S : List Sp) (k : KIs W a g 4 x s S) (hp : S[i]? = some (⟨12, u, b, z⟩ : Sp)) => (And.intro k.mi.1 k.mi.2))
  have HP := Lib.hid hp
  have HL := Lib.hid (show i < S.length by rw [h.n]; exact hin)
  have K1 := Lib.hid (h.below ((Below.refl _ w).drew))
  clear HO0 h hp har hv
  cases hc : v
  all_goals
    go_enter Tryz.func237, Tryz.ntmps237
    go_wp2_with fail
    go_region_held3 (fun W => W.cell? ⟨x.l, 0, none⟩ = some (.pointer (some ⟨a, 0, none⟩)) ∧ W.cell? ⟨x.l, 1, none⟩ = some (.int .i64 x.t))
      (first | with_reducible exact HC.out _ _ _ K1.out HP.out | with_reducible exact HC.out _ _ _ K2.out HP.out)
      (first
        | (go_at_call 199; go_loud (refine (HO.out _ K1.out).mono ?_); rintro en w3 ⟨rfl, a3, t3⟩; have K2 := Lib.hid (K1.out.op t3 a3); have T2 := Lib.hid (((Turns.refl [a, g, x.q] w).drew).trans (turns_agq t3)); clear a3 t3))
  all_goals
    go_wp2
    go_ret
    rw [HX.out]
    first
      | (rw [if_pos (by simpa using hc)]; exact ⟨rfl, K2.out.samS HP.out, T2.out⟩)
      | (rw [if_neg (by simpa using hc)]; exact ⟨rfl, K2.out.samS HP.out, T2.out⟩)
set_option maxRecDepth 100000 in
set_option maxHeartbeats 2000000 in
theorem m_out14 (h : KIs w a g 4 x s S) (i : Nat) (hin : i < x.n) (u b z : Int) (hp : S[i]? = some (⟨14, u, b, z⟩ : Sp)) (ho : s.ops + 1 ≤ 1000000000000) (hu : -10 ≤ u ∧ u ≤ 10000000000000) :
    Calls Tryz.prog 237 #[.pointer (some ⟨x.l, 0, none⟩), .pointer (some ⟨x.q, i * 4, none⟩), .int .i64 ((i : Int) + 1)] w (MidK w a g x S i (⟨14, u, b, z⟩ : Sp) (mcsOut x.t s ((i : Int) + 1) (⟨14, u, b, z⟩ : Sp))) := by
  have hn := h.n32
  have e0 := h.sp.cell hp 0 _ rfl
  simp only [Nat.add_zero] at e0
  obtain ⟨ar', har⟩ : ∃ q, q = storeA s (mWt x.t u) 0 := ⟨_, rfl⟩
  have HX : Hid (mcsOut x.t s ((i : Int) + 1) (⟨14, u, b, z⟩ : Sp) = (ar', ⟨0, u, b, z⟩)) := Lib.hid (by rw [har]; rfl)
  have HF := Lib.hid (fun W (k : KIs W a g 4 x s S) => wait_mcs k u (by exact hu))
  have HO0 := (fun W (k : KIs W a g 4 x s S) => store_any k.ar (mWt x.t u) 0 ho)
  rw [← har] at HO0
  have HO := Lib.hid HO0
  have HC := Lib.hid (fun W s (S : List Sp) (k : KIs W a g 4 x s S) (hp : S[i]? = some (⟨14, u, b, z⟩ : Sp)) => (And.intro k.mi.1 (k.sp.cell hp 1 _ rfl)))
  have HP := Lib.hid hp
  have HL := Lib.hid (show i < S.length by rw [h.n]; exact hin)
  have K1 := Lib.hid (h.below ((Below.refl _ w).drew))
  clear HO0 h hp har
  go_enter Tryz.func237, Tryz.ntmps237
  go_wp2_with fail
  go_region_held3 (fun W => W.cell? ⟨x.l, 0, none⟩ = some (.pointer (some ⟨a, 0, none⟩)) ∧ W.cell? ⟨x.q, i * 4 + 1, none⟩ = some (.int .i64 u))
    (first | with_reducible exact HC.out _ _ _ K1.out HP.out | with_reducible exact HC.out _ _ _ K2.out HP.out)
    (first
      | (go_at_call 238; go_loud (refine (HF.out _ K1.out).mono ?_); rintro en w2 ⟨rfl, rfl⟩)
      | (go_at_call 89; go_loud (refine (HO.out _ K1.out).mono ?_); rintro en w3 ⟨rfl, a3, t3⟩; have K2 := Lib.hid (K1.out.op t3 a3); have T2 := Lib.hid (((Turns.refl [a, g, x.q] w).drew).trans (turns_agq t3)); clear a3 t3))
  all_goals
    go_wp2
    go_ret
    rw [HX.out]
    exact ⟨rfl, K2.out.samS HP.out, T2.out⟩
set_option maxRecDepth 100000 in
set_option maxHeartbeats 2000000 in
theorem m_out11 (h : KIs w a g 4 x s S) (i : Nat) (hin : i < x.n) (u b z : Int) (hp : S[i]? = some (⟨11, u, b, z⟩ : Sp)) (ho : s.ops + 1 ≤ 1000000000000) :
    Calls Tryz.prog 237 #[.pointer (some ⟨x.l, 0, none⟩), .pointer (some ⟨x.q, i * 4, none⟩), .int .i64 ((i : Int) + 1)] w (MidK w a g x S i (⟨11, u, b, z⟩ : Sp) (mcsOut x.t s ((i : Int) + 1) (⟨11, u, b, z⟩ : Sp))) := by
  have hn := h.n32
  have e0 := h.sp.cell hp 0 _ rfl
  simp only [Nat.add_zero] at e0
  obtain ⟨ar', har⟩ : ∃ q, q = loadA s (mNx x.t ((i : Int) + 1))  := ⟨_, rfl⟩
  obtain ⟨v, hv⟩ : ∃ v, v = ldW s.W (mNx x.t ((i : Int) + 1)) := ⟨_, rfl⟩
  have HX : Hid (mcsOut x.t s ((i : Int) + 1) (⟨11, u, b, z⟩ : Sp) = (ar', (⟨if v ≠ 0 then 14 else 12, v, b, z⟩ : Sp))) := Lib.hid (by rw [har, hv]; rfl)
  have HF := Lib.hid (fun W (k : KIs W a g 4 x s S) => next_mcs k ((i : Int) + 1) (by omega))
  have HO0 := (fun W (k : KIs W a g 4 x s S) => load_any k.ar (mNx x.t ((i : Int) + 1))  ho)
  rw [← har, ← hv] at HO0
  have HO := Lib.hid HO0
  have HC := Lib.hid (fun W s (S : List Sp) (y : Int) (k : KIs W a g 4 x s S) (hp : S[i]? = some (⟨11, y, b, z⟩ : Sp)) => k.mi.1)
  have HP := Lib.hid hp
  have HL := Lib.hid (show i < S.length by rw [h.n]; exact hin)
  have K1 := Lib.hid (h.below ((Below.refl _ w).drew))
  clear HO0 h hp har hv
  cases hc : (v != 0)
  all_goals
    go_enter Tryz.func237, Tryz.ntmps237
    go_wp2_with fail
    go_region_held3 (fun W => W.cell? ⟨x.l, 0, none⟩ = some (.pointer (some ⟨a, 0, none⟩)))
      (first | with_reducible exact HC.out _ _ _ _ K1.out HP.out | with_reducible exact HC.out _ _ _ _ K2.out HP.out | with_reducible exact HC3.out)
      (first
        | (go_at_call 232; go_loud (refine (HF.out _ K1.out).mono ?_); rintro en w2 ⟨rfl, rfl⟩)
        | (go_at_call 88; go_loud (refine (HO.out _ K1.out).mono ?_); rintro en w3 ⟨rfl, a3, t3⟩; have K2 := Lib.hid (K1.out.op t3 a3); have T2 := Lib.hid (((Turns.refl [a, g, x.q] w).drew).trans (turns_agq t3)); have K3 := Lib.hid (K2.out.put (p' := (⟨11, v, b, z⟩ : Sp)) HP.out (j := 1) (u := .int .i64 v) (by decide) rfl); have HC3 := Lib.hid (HC.out _ _ _ v K3.out (getS_set HP.out _)); have e1 := K2.out.sp.cell HP.out 1 _ rfl; have z1 := K2.out.sp.free (i * 4 + 1); have e5 := K2.out.sp.cell HP.out 0 _ rfl; simp only [Nat.add_zero] at e5; clear a3 t3))
  all_goals
    go_wp2
    go_ret
    rw [HX.out]
    first
      | (rw [if_pos (by simpa using hc)]; exact ⟨rfl, K3.out, T2.out.trans (turns_qag (turns_q _ _ _))⟩)
      | (rw [if_neg (by simpa using hc)]; exact ⟨rfl, K3.out, T2.out.trans (turns_qag (turns_q _ _ _))⟩)
set_option maxRecDepth 100000 in
set_option maxHeartbeats 2000000 in
theorem m_out13 (h : KIs w a g 4 x s S) (i : Nat) (hin : i < x.n) (u b z : Int) (hp : S[i]? = some (⟨13, u, b, z⟩ : Sp)) (ho : s.ops + 1 ≤ 1000000000000) :
    Calls Tryz.prog 237 #[.pointer (some ⟨x.l, 0, none⟩), .pointer (some ⟨x.q, i * 4, none⟩), .int .i64 ((i : Int) + 1)] w (MidK w a g x S i (⟨13, u, b, z⟩ : Sp) (mcsOut x.t s ((i : Int) + 1) (⟨13, u, b, z⟩ : Sp))) := by
  have hn := h.n32
  have e0 := h.sp.cell hp 0 _ rfl
  simp only [Nat.add_zero] at e0
  obtain ⟨ar', har⟩ : ∃ q, q = loadA s (mNx x.t ((i : Int) + 1))  := ⟨_, rfl⟩
  obtain ⟨v, hv⟩ : ∃ v, v = ldW s.W (mNx x.t ((i : Int) + 1)) := ⟨_, rfl⟩
  have HX : Hid (mcsOut x.t s ((i : Int) + 1) (⟨13, u, b, z⟩ : Sp) = (ar', (⟨if v ≠ 0 then 14 else 13, v, b, z⟩ : Sp))) := Lib.hid (by rw [har, hv]; rfl)
  have HF := Lib.hid (fun W (k : KIs W a g 4 x s S) => next_mcs k ((i : Int) + 1) (by omega))
  have HO0 := (fun W (k : KIs W a g 4 x s S) => load_any k.ar (mNx x.t ((i : Int) + 1))  ho)
  rw [← har, ← hv] at HO0
  have HO := Lib.hid HO0
  have HC := Lib.hid (fun W s (S : List Sp) (y : Int) (k : KIs W a g 4 x s S) (hp : S[i]? = some (⟨13, y, b, z⟩ : Sp)) => k.mi.1)
  have HP := Lib.hid hp
  have HL := Lib.hid (show i < S.length by rw [h.n]; exact hin)
  have K1 := Lib.hid (h.below ((Below.refl _ w).drew))
  clear HO0 h hp har hv
  cases hc : (v != 0)
  all_goals
    go_enter Tryz.func237, Tryz.ntmps237
    go_wp2_with fail
    go_region_held3 (fun W => W.cell? ⟨x.l, 0, none⟩ = some (.pointer (some ⟨a, 0, none⟩)))
      (first | with_reducible exact HC.out _ _ _ _ K1.out HP.out | with_reducible exact HC.out _ _ _ _ K2.out HP.out | with_reducible exact HC3.out)
      (first
        | (go_at_call 232; go_loud (refine (HF.out _ K1.out).mono ?_); rintro en w2 ⟨rfl, rfl⟩)
        | (go_at_call 88; go_loud (refine (HO.out _ K1.out).mono ?_); rintro en w3 ⟨rfl, a3, t3⟩; have K2 := Lib.hid (K1.out.op t3 a3); have T2 := Lib.hid (((Turns.refl [a, g, x.q] w).drew).trans (turns_agq t3)); have K3 := Lib.hid (K2.out.put (p' := (⟨13, v, b, z⟩ : Sp)) HP.out (j := 1) (u := .int .i64 v) (by decide) rfl); have HC3 := Lib.hid (HC.out _ _ _ v K3.out (getS_set HP.out _)); have e1 := K2.out.sp.cell HP.out 1 _ rfl; have z1 := K2.out.sp.free (i * 4 + 1); have e5 := K2.out.sp.cell HP.out 0 _ rfl; simp only [Nat.add_zero] at e5; clear a3 t3))
  all_goals
    go_wp2
    go_ret
    rw [HX.out]
    first
      | (rw [if_pos (by simpa using hc)]; exact ⟨rfl, K3.out, T2.out.trans (turns_qag (turns_q _ _ _))⟩)
      | (rw [if_neg (by simpa using hc)]; exact ⟨rfl, K3.out, T2.out.trans (turns_qag (turns_q _ _ _))⟩)
end
end Go.Proofs.YtfiigndlnihioaaGreat
end
section
/- Layer 18 (mcs): goes, Step, Alone. -/
namespace Go.Proofs.YtfiigndlnihioaaGreat
open Go.RowKit

section
variable {w w' : World} {a g k : Nat} {x : Fx} {s : Ar} {S : List Sp}
/-- the bounds that a step asks -/
structure PreK (k : Nat) (x : Fx) (s : Ar) (S : List Sp) (B : Int) : Prop where
  ops : s.ops + 1 ≤ 1000000000000
  w : WdB B s
  p : ∀ p ∈ S, SpB k B p
  B0 : 1 ≤ B
  B1 : B ≤ 10000000000
  inr : inR s.W x.t = true
theorem PreK.sp {B : Int} (h : PreK k x s S B) {i : Nat} {p : Sp} (hp : S[i]? = some p) : SpB k B p := h.p p (List.mem_of_getElem? hp)
/-- where a slot of an mcs lock may be -/
def mcsPc (p : Sp) : Prop := (0 ≤ p.pc ∧ p.pc ≤ 5) ∨ (10 ≤ p.pc ∧ p.pc ≤ 14)
theorem midIn_mcs {B : Int} (h : KIs w a g 4 x s S) (C : PreK 4 x s S B) (i : Nat) (p : Sp) (hp : S[i]? = some p) (h0 : 0 < p.pc) (h5 : p.pc ≤ 5) :
    Calls Tryz.prog 236 #[.pointer (some ⟨x.l, 0, none⟩), .pointer (some ⟨x.q, i * 4, none⟩), .int .i64 ((i : Int) + 1)] w (MidK w a g x S i p (mcsIn x.t s ((i : Int) + 1) p)) := by
  have hi : i < x.n := by have := (List.getElem?_eq_some_iff.1 hp).1; rw [h.n] at this; exact this
  have hb := C.sp hp
  have ho := C.ops
  have hB := C.B1
  obtain ⟨pc, u, b, z⟩ := p
  have a0 := hb.a0
  have a1 := hb.a1
  simp only at h0 h5 a0 a1
  have : pc = 1 ∨ pc = 2 ∨ pc = 3 ∨ pc = 4 ∨ pc = 5 := by omega
  rcases this with rfl | rfl | rfl | rfl | rfl
  · exact m_in1 h i hi u b z hp ho
  · exact m_in2 h i hi u b z hp ho
  · exact m_in3 h i hi u b z hp ho
  · exact m_in4 h i hi u b z hp ho (by omega)
  · exact m_in5 h i hi u b z hp ho
theorem midOut_mcs {B : Int} (h : KIs w a g 4 x s S) (C : PreK 4 x s S B) (i : Nat) (p : Sp) (hp : S[i]? = some p) (h0 : 10 < p.pc) (h5 : p.pc ≤ 14) :
    Calls Tryz.prog 237 #[.pointer (some ⟨x.l, 0, none⟩), .pointer (some ⟨x.q, i * 4, none⟩), .int .i64 ((i : Int) + 1)] w (MidK w a g x S i p (mcsOut x.t s ((i : Int) + 1) p)) := by
  have hi : i < x.n := by have := (List.getElem?_eq_some_iff.1 hp).1; rw [h.n] at this; exact this
  have hb := C.sp hp
  have ho := C.ops
  have hB := C.B1
  obtain ⟨pc, u, b, z⟩ := p
  have a0 := hb.a0
  have a1 := hb.a1
  simp only at h0 h5 a0 a1
  have : pc = 11 ∨ pc = 12 ∨ pc = 13 ∨ pc = 14 := by omega
  rcases this with rfl | rfl | rfl | rfl
  · exact m_out11 h i hi u b z hp ho
  · exact m_out12 h i hi u b z hp ho
  · exact m_out13 h i hi u b z hp ho
  · exact m_out14 h i hi u b z hp ho (by omega)
def GoK (w : World) (a g : Nat) (x : Fx) (S : List Sp) (i : Nat) (to_ : Int) (r : Ar × Sp) (e : Ending) (w' : World) : Prop :=
  e = .returned (.bool (decide (r.2.pc = to_))) ∧ KIs w' a g 4 x r.1 (S.set i r.2) ∧ Turns [a, g, x.q] w w'
theorem ret_boolF {b c : Bool} (h : b = c) : Ending.returned (Value.bool b) = Ending.returned (Value.bool c) := by rw [h]
theorem mcsIn_pc (t : Int) (s : Ar) (y : Int) (p : Sp) : (mcsIn t s y p).2.pc ≠ 0 := by
  unfold mcsIn
  split
  · simp
  split
  · simp
  split
  · simp only; split <;> decide
  split
  · simp
  · simp only; split <;> decide
theorem mcsOut_pc (t : Int) (s : Ar) (y : Int) (p : Sp) : (mcsOut t s y p).2.pc ≠ 10 := by
  unfold mcsOut
  split
  · simp only; split <;> decide
  split
  · simp
  · simp only; repeat' split
    all_goals decide
theorem came_in_mcs (t m : Int) (s : Ar) (i : Int) {p : Sp} (h0 : 0 < p.pc) (h5 : p.pc ≤ 5) : decide ((mcsIn t s (i + 1) p).2.pc = 10) = cameK p (stepK 4 t m s i p).2 := by
  have e : stepK 4 t m s i p = mcsIn t s (i + 1) p := by
    show mcsK t s i p = _
    unfold mcsK
    rw [if_pos ⟨h0, by omega⟩]
  rw [e]
  have hn := mcsIn_pc t s (i + 1) p
  unfold cameK
  by_cases h : (mcsIn t s (i + 1) p).2.pc = 10
  · rw [decide_eq_true h, decide_eq_true ⟨.inl h, by omega, by omega⟩]
  · rw [decide_eq_false h, decide_eq_false (fun k => by rcases k.1 with k | k <;> contradiction)]
theorem came_out_mcs (t m : Int) (s : Ar) (i : Int) {p : Sp} (h0 : 10 < p.pc) (h5 : p.pc ≤ 14) : decide ((mcsOut t s (i + 1) p).2.pc = 0) = cameK p (stepK 4 t m s i p).2 := by
  have e : stepK 4 t m s i p = mcsOut t s (i + 1) p := by
    show mcsK t s i p = _
    unfold mcsK
    rw [if_neg (by omega), if_pos h0]
  rw [e]
  have hn := mcsOut_pc t s (i + 1) p
  unfold cameK
  by_cases h : (mcsOut t s (i + 1) p).2.pc = 0
  · rw [decide_eq_true h, decide_eq_true ⟨.inr h, by omega, by omega⟩]
  · rw [decide_eq_false h, decide_eq_false (fun k => by rcases k.1 with k | k <;> contradiction)]
set_option maxRecDepth 100000 in
set_option maxHeartbeats 1000000 in
theorem goesIn_mcs (h : KIs w a g 4 x s S) (i : Nat) (p : Sp) (hp : S[i]? = some p) (to_ : Int) (r : Ar × Sp)
    (hm : Calls Tryz.prog 236 #[.pointer (some ⟨x.l, 0, none⟩), .pointer (some ⟨x.q, i * 4, none⟩), .int .i64 ((i : Int) + 1)] w (MidK w a g x S i p r)) :
    Calls Tryz.prog 235 #[.pointer (some ⟨x.l, 0, none⟩), .int .i64 i, .int .i64 to_, .func (.func 236) #[.pointer (some ⟨x.l, 0, none⟩)] #[]] w (GoK w a g x S i to_ r) := by
  have hi : i < x.n := by have := (List.getElem?_eq_some_iff.1 hp).1; rw [h.n] at this; exact this
  have hn := h.n32
  have x7 : IntKind.i64.wrap ((i : Int) + 1) = (i : Int) + 1 := IntWalk.i64_in _ (by omega)
  have HM := Lib.hid hm
  have HP := Lib.hid hp
  have H := Lib.hid h
  clear h hm hp
  cases hc : (r.2.pc == to_)
  all_goals
    go_enter Tryz.func235, Tryz.ntmps235
    go_wp2_with (go_at_call 234; refine (spot_mcs H.out i hi).mono ?_; rintro e w' ⟨rfl, rfl⟩)
    go_wp2_with (go_at_call 236; refine HM.out.mono ?_; rintro e w2 ⟨rfl, k2, t2⟩; have K2 := Lib.hid (And.intro k2 t2); have K3 := Lib.hid (k2.put0 (p' := r.2) (getS_set HP.out _) (u := .int .i64 r.2.pc) rfl); have f0 := k2.sp.free (i * 4); have a0 := k2.sp.cell (getS_set HP.out _) 0 _ rfl; simp only [Nat.add_zero] at a0; clear k2 t2)
    go_ret
    have k3 := K3.out
    rw [setS_set] at k3
    refine ⟨?_, k3, K2.out.2.trans (turns_qag (turns_q _ _ _))⟩
    first
      | exact ret_boolF (decide_eq_true (by simpa using hc)).symm
      | exact ret_boolF (decide_eq_false (by simpa using hc)).symm
set_option maxRecDepth 100000 in
set_option maxHeartbeats 1000000 in
theorem goesOut_mcs (h : KIs w a g 4 x s S) (i : Nat) (p : Sp) (hp : S[i]? = some p) (to_ : Int) (r : Ar × Sp)
    (hm : Calls Tryz.prog 237 #[.pointer (some ⟨x.l, 0, none⟩), .pointer (some ⟨x.q, i * 4, none⟩), .int .i64 ((i : Int) + 1)] w (MidK w a g x S i p r)) :
    Calls Tryz.prog 235 #[.pointer (some ⟨x.l, 0, none⟩), .int .i64 i, .int .i64 to_, .func (.func 237) #[.pointer (some ⟨x.l, 0, none⟩)] #[]] w (GoK w a g x S i to_ r) := by
  have hi : i < x.n := by have := (List.getElem?_eq_some_iff.1 hp).1; rw [h.n] at this; exact this
  have hn := h.n32
  have x7 : IntKind.i64.wrap ((i : Int) + 1) = (i : Int) + 1 := IntWalk.i64_in _ (by omega)
  have HM := Lib.hid hm
  have HP := Lib.hid hp
  have H := Lib.hid h
  clear h hm hp
  cases hc : (r.2.pc == to_)
  all_goals
    go_enter Tryz.func235, Tryz.ntmps235
    go_wp2_with (go_at_call 234; refine (spot_mcs H.out i hi).mono ?_; rintro e w' ⟨rfl, rfl⟩)
    go_wp2_with (go_at_call 237; refine HM.out.mono ?_; rintro e w2 ⟨rfl, k2, t2⟩; have K2 := Lib.hid (And.intro k2 t2); have K3 := Lib.hid (k2.put0 (p' := r.2) (getS_set HP.out _) (u := .int .i64 r.2.pc) rfl); have f0 := k2.sp.free (i * 4); have a0 := k2.sp.cell (getS_set HP.out _) 0 _ rfl; simp only [Nat.add_zero] at a0; clear k2 t2)
    go_ret
    have k3 := K3.out
    rw [setS_set] at k3
    refine ⟨?_, k3, K2.out.2.trans (turns_qag (turns_q _ _ _))⟩
    first
      | exact ret_boolF (decide_eq_true (by simpa using hc)).symm
      | exact ret_boolF (decide_eq_false (by simpa using hc)).symm
set_option maxRecDepth 100000 in
set_option maxHeartbeats 4000000 in
theorem step_mcs {B : Int} (h : KIs w a g 4 x s S) (C : PreK 4 x s S B) (i : Nat) (p : Sp) (hp : S[i]? = some p) (hc : mcsPc p) :
    Calls Tryz.prog 231 #[.pointer (some ⟨x.l, 0, none⟩), .int .i64 i] w (StOk w a g 4 x s S i p) := by
  have hfield := field_pc
  have HS := Lib.hid (Spot_mcs h i p hp)
  have HI := Lib.hid (fun W (k : KIs W a g 4 x s S) (h0 : 0 < p.pc) (h5 : p.pc ≤ 5) => goesIn_mcs k i p hp 10 _ (midIn_mcs k C i p hp h0 h5))
  have HO := Lib.hid (fun W (k : KIs W a g 4 x s S) (h0 : 10 < p.pc) (h5 : p.pc ≤ 14) => goesOut_mcs k i p hp 0 _ (midOut_mcs k C i p hp h0 h5))
  have HP := Lib.hid hp
  have H := Lib.hid h
  clear h hp C
  obtain ⟨pc, u, b, z⟩ := p
  have hcs : pc = 0 ∨ pc = 10 ∨ (pc = 1 ∨ pc = 2 ∨ pc = 3 ∨ pc = 4 ∨ pc = 5) ∨ (pc = 11 ∨ pc = 12 ∨ pc = 13 ∨ pc = 14) := by unfold mcsPc at hc; simp only at hc; omega
  clear hc
  rcases hcs with hcs | hcs | hcs | hcs
  · subst hcs
    go_enter Tryz.func231, Tryz.ntmps231
    go_wp2_with (go_at_call 230; refine HS.out.mono ?_; unfold spotV; rintro e w1 ⟨rfl, b1⟩; have H1 := Lib.hid (And.intro (H.out.below b1) (Turns.of_below (S := [a, g, x.q]) b1)); clear b1)
    go_ret
    have k := H1.out.1
    rw [← setS_id HP.out] at k
    exact ⟨rfl, k, H1.out.2⟩
  · subst hcs
    go_enter Tryz.func231, Tryz.ntmps231
    go_wp2_with (go_at_call 230; refine HS.out.mono ?_; unfold spotV; rintro e w1 ⟨rfl, b1⟩; have H1 := Lib.hid (And.intro (H.out.below b1) (Turns.of_below (S := [a, g, x.q]) b1)); clear b1)
    go_ret
    have k := H1.out.1
    rw [← setS_id HP.out] at k
    exact ⟨rfl, k, H1.out.2⟩
  · rcases hcs with rfl | rfl | rfl | rfl | rfl
    all_goals
      go_enter Tryz.func231, Tryz.ntmps231
      go_wp2_with (go_at_call 230; refine HS.out.mono ?_; unfold spotV; rintro e w1 ⟨rfl, b1⟩; have H1 := Lib.hid (And.intro (H.out.below b1) (Turns.of_below (S := [a, g, x.q]) b1)); clear b1)
      go_wp2_with (go_at_call 235; refine (HI.out _ H1.out.1 (by simp) (by simp)).mono ?_; rintro e w2 ⟨rfl, k2, t2⟩; have H2 := Lib.hid (And.intro k2 t2); clear k2 t2)
      go_ret
      exact ⟨ret_boolF (came_in_mcs _ _ _ _ (by simp) (by simp)), H2.out.1, H1.out.2.trans H2.out.2⟩
  · rcases hcs with rfl | rfl | rfl | rfl
    all_goals
      go_enter Tryz.func231, Tryz.ntmps231
      go_wp2_with (go_at_call 230; refine HS.out.mono ?_; unfold spotV; rintro e w1 ⟨rfl, b1⟩; have H1 := Lib.hid (And.intro (H.out.below b1) (Turns.of_below (S := [a, g, x.q]) b1)); clear b1)
      go_wp2_with (go_at_call 235; refine (HO.out _ H1.out.1 (by simp) (by simp)).mono ?_; rintro e w2 ⟨rfl, k2, t2⟩; have H2 := Lib.hid (And.intro k2 t2); clear k2 t2)
      go_ret
      exact ⟨ret_boolF (came_out_mcs _ _ _ _ (by simp) (by simp)), H2.out.1, H1.out.2.trans H2.out.2⟩
set_option maxRecDepth 100000 in
set_option maxHeartbeats 2000000 in
theorem alone_mcs (h : KIs w a g 4 x s S) (i : Nat) (p : Sp) (hp : S[i]? = some p) (hpc : p.pc = 10) (ho : s.ops + 1 ≤ 1000000000000) :
    Calls Tryz.prog 226 #[.pointer (some ⟨x.l, 0, none⟩), .int .i64 i] w (AlOk w a g 4 x s S i p) := by
  have hi : i < x.n := by have := (List.getElem?_eq_some_iff.1 hp).1; rw [h.n] at this; exact this
  have hn := h.n32
  have hfield := field_pc
  obtain ⟨c, u, b, z⟩ := p
  simp only at hpc
  subst hpc
  obtain ⟨ar', har⟩ : ∃ q, q = loadA s (mNx x.t ((i : Int) + 1)) := ⟨_, rfl⟩
  obtain ⟨v, hv⟩ : ∃ v, v = ldW s.W (mNx x.t ((i : Int) + 1)) := ⟨_, rfl⟩
  have HX : Hid (aloneK 4 x.t s i ⟨10, u, b, z⟩ = (ar', decide (v = 0))) := Lib.hid (by rw [har, hv]; rfl)
  have x7 : IntKind.i64.wrap ((i : Int) + 1) = (i : Int) + 1 := IntWalk.i64_in _ (by omega)
  have HO0 := (fun W (k : KIs W a g 4 x s S) => load_any k.ar (mNx x.t ((i : Int) + 1)) ho)
  rw [← har, ← hv] at HO0
  have HO := Lib.hid HO0
  have HS := Lib.hid (fun W (k : KIs W a g 4 x s S) => Spot_mcs k i _ hp)
  have HF := Lib.hid (fun W (k : KIs W a g 4 x s S) => next_mcs k ((i : Int) + 1) (by omega))
  have HC : Hid (∀ W s (S' : List Sp), KIs W a g 4 x s S' → W.cell? ⟨x.l, 0, none⟩ = some (.pointer (some ⟨a, 0, none⟩))) := Lib.hid (fun W s S' k => k.mi.1)
  have HP := Lib.hid hp
  have K1 := Lib.hid (h.below ((Below.refl _ w).drew))
  clear HO0 h hp har hv
  cases hd : (v == 0)
  all_goals
    go_enter Tryz.func226, Tryz.ntmps226
    go_wp2_with fail
    first
    | (go_region_held3 (fun W => W.cell? ⟨x.l, 0, none⟩ = some (.pointer (some ⟨a, 0, none⟩)))
        (first | with_reducible exact HC.out _ _ _ K1.out | with_reducible exact HC.out _ _ _ K2.out | with_reducible exact HC.out _ _ _ K3.out)
        (first
          | (go_at_call 230; go_loud (refine (HS.out _ K1.out).mono ?_); unfold spotV; rintro en w2 ⟨rfl, b2⟩; have K2 := Lib.hid (K1.out.below b2); have T2 := Lib.hid (((Turns.refl [a, g, x.q] w).drew).trans (Turns.of_below b2)); clear b2)
          | (go_at_call 232; go_loud (refine (HF.out _ K2.out).mono ?_); rintro en w3 ⟨rfl, rfl⟩)
          | (go_at_call 88; go_loud (refine (HO.out _ K2.out).mono ?_); rintro en w3 ⟨rfl, a3, t3⟩; have K3 := Lib.hid (K2.out.op t3 a3); have T3 := Lib.hid (T2.out.trans (turns_agq t3)); clear a3 t3)))
    | fail "held"
  all_goals
    go_wp2
    go_ret
    rw [AlOk, HX.out]
    first
      | exact ⟨by rw [decide_eq_true (by simpa using hd)]; rfl, K3.out, T3.out⟩
      | exact ⟨by rw [decide_eq_false (by simpa using hd)]; rfl, K3.out, T3.out⟩
end
end Go.Proofs.YtfiigndlnihioaaGreat
end
section
/- Layer 20 (flat): a flat lock in memory; made, Kind, Spot, Ask, Leave, Step, Alone. (printed by gen_fld.py) -/
namespace Go.Proofs.YtfiigndlnihioaaGreat
open Go.RowKit

def ifV (k l : Nat) : Value :=
  match k with
  | 1 => .iface 131 (.agg #[.pointer (some ⟨l, 0, none⟩)])
  | 2 => .iface 132 (.pointer (some ⟨l, 0, none⟩))
  | 3 => .iface 135 (.pointer (some ⟨l, 0, none⟩))
  | 4 => .iface 138 (.pointer (some ⟨l, 0, none⟩))
  | _ => .iface 141 (.pointer (some ⟨l, 0, none⟩))
/-- a flat lock in memory -/
structure FlIs (w : World) (a g k : Nat) (x : Fx) (s : Ar) (S : List Sp) : Prop where
  p : Blk w x.p 145 #[.int .i64 (k : Int), ifV k x.l]
  ki : KIs w a g k x s S
  pa : x.p ≠ a
  pg : x.p ≠ g
  pq : x.p ≠ x.q
/-- the kinds that are walked -/
def KOk (k : Nat) : Prop := k = 2 ∨ k = 4
/-- where a slot of a kind may be -/
def pcK (k : Nat) (p : Sp) : Prop :=
  if k = 4 then mcsPc p else if k = 5 then p.pc = 0 ∨ p.pc = 1 ∨ p.pc = 2 ∨ p.pc = 3 ∨ p.pc = 10 ∨ p.pc = 11 else p.pc = 0 ∨ p.pc = 1 ∨ p.pc = 2 ∨ p.pc = 10 ∨ p.pc = 11
section
variable {w w' : World} {a g k : Nat} {x : Fx} {s s' : Ar} {S S' : List Sp} {T : List Nat}
theorem FlIs.turns (h : FlIs w a g k x s S) (t : Turns T w w') (h0 : x.p ∉ T) (h1 : x.l ∉ T) (h2 : a ∉ T) (h3 : g ∉ T) (h4 : x.q ∉ T) : FlIs w' a g k x s S :=
  { h with p := t.blk h.p h0, ki := h.ki.turns t h1 h2 h3 h4 }
theorem FlIs.below (h : FlIs w a g k x s S) (t : Below w.heap.size w w') : FlIs w' a g k x s S :=
  h.turns (T := []) (Turns.of_below t) (by simp) (by simp) (by simp) (by simp) (by simp)
theorem FlIs.to (h : FlIs w a g k x s S) (t : Turns [a, g, x.q] w w') (h2 : KIs w' a g k x s' S') : FlIs w' a g k x s' S' :=
  { h with p := t.blk h.p (by simp [h.pa, h.pg, h.pq]), ki := h2 }
/-- another lock on the same arena has turned -/
theorem FlIs.oth (h : FlIs w a g k x s S) (t : Turns T w w') (ha : ArIs w' a g s') (h0 : x.p ∉ T) (h1 : x.l ∉ T) (h4 : x.q ∉ T) : FlIs w' a g k x s' S :=
  { h with p := t.blk h.p h0, ki := { h.ki with ar := ha, lk := t.blk h.ki.lk h1, sp := h.ki.sp.turns t h4 } }
theorem made_fl (h : FlIs w a g k x s S) (hk : k ≠ 0) : Calls Tryz.prog 86 #[.pointer (some ⟨x.p, 0, none⟩)] w fun e w' => e = .returned (.bool true) ∧ w = w' := by
  have c0 : w.cell? ⟨x.p, 0, none⟩ = some (.int .i64 (k : Int)) := h.p.cell 0
  have u0 : ((k : Int) != 0) = true := by simpa using hk
  clear h
  go_enter Tryz.func86, Tryz.ntmps86
  go_wp2
  go_ret
  exact ⟨rfl, rfl⟩
theorem kind_fl (h : FlIs w a g k x s S) (hk : k ≠ 0) : Calls Tryz.prog 94 #[.pointer (some ⟨x.p, 0, none⟩)] w fun e w' => e = .returned (.int .i64 (k : Int)) ∧ w = w' := by
  have c0 : w.cell? ⟨x.p, 0, none⟩ = some (.int .i64 (k : Int)) := h.p.cell 0
  have HM := Lib.hid (made_fl h hk)
  clear h
  go_enter Tryz.func94, Tryz.ntmps94
  go_wp2_with fail
  refine HM.out.mono ?_
  rintro en w1 ⟨rfl, rfl⟩
  go_wp2
  go_ret
  exact ⟨rfl, rfl⟩
theorem step_tick {B : Int} (h : KIs w a g 2 x s S) (C : PreK 2 x s S B) (i : Nat) (p : Sp) (hp : S[i]? = some p) (hc : pcK 2 p) :
    Calls Tryz.prog 208 #[.pointer (some ⟨x.l, 0, none⟩), .int .i64 i] w (StOk w a g 2 x s S i p) := by
  have hb := C.sp hp
  have ho := C.ops
  have hB := C.B1
  have hB0 := C.B0
  have hl := C.w.ld (by omega) x.t
  have hc2 : p.pc = 0 ∨ p.pc = 1 ∨ p.pc = 2 ∨ p.pc = 10 ∨ p.pc = 11 := hc
  obtain ⟨pc, u, b, z⟩ := p
  have a0 := hb.a0
  have a1 := hb.a1
  simp only at hc2 a0 a1
  rcases hc2 with rfl | rfl | rfl | rfl | rfl
  · exact step_tick0 h i _ hp (.inl rfl)
  · exact step_tick1 h i u b z hp ho C.inr hl.1 (by omega)
  · exact step_tick2 h i u b z hp ho
  · exact step_tick0 h i _ hp (.inr rfl)
  · exact step_tick11 h i u b z hp ho (by omega) (by omega)
theorem Spot_row (h : KIs w a g 2 x s S) (i : Nat) (p : Sp) (hp : S[i]? = some p) : Calls Tryz.prog 212 #[.pointer (some ⟨x.l, 0, none⟩), .int .i64 i] w fun e w' => e = .returned (spotV p) ∧ Below w.heap.size w w' := by
  have hi : i < x.n := by have := (List.getElem?_eq_some_iff.1 hp).1; rw [h.n] at this; exact this
  have a0 := h.sp.cell hp 0 _ rfl
  have a1 := h.sp.cell hp 1 _ rfl
  have a2 := h.sp.cell hp 2 _ rfl
  have a3 := h.sp.cell hp 3 _ rfl
  simp only [Nat.add_zero] at a0
  have hs2 := h.sp.lt
  have H : Hid (KIs (w.alloc (.cells #[.int .i64 0, .int .i64 0, .int .i64 0, .int .i64 0] 46)) a g 2 x s S) := Lib.hid (h.below ((Below.refl _ _).alloc (Nat.le_refl _) _))
  clear h hp
  go_enter Tryz.func212, Tryz.ntmps212
  go_wp2_with (go_at_call 213; refine (spot_ticket H.out i hi).mono ?_; rintro e w' ⟨rfl, rfl⟩)
  exact bodyPost_ret (results_cell_row (by rfl) _ _ w.heap.size 46 _ (0, 0) _ (by rfl) (heap_alloc_new w _) Tryz.underlying46 rfl (by kernel_rfl)) rfl ⟨rfl, (Below.refl _ _).alloc (Nat.le_refl _) _⟩
theorem Spot_ticket (h : KIs w a g 2 x s S) (i : Nat) (p : Sp) (hp : S[i]? = some p) : Calls Tryz.prog 207 #[.pointer (some ⟨x.l, 0, none⟩), .int .i64 i] w fun e w' => e = .returned (spotV p) ∧ Below w.heap.size w w' := by
  have b1 := (Below.refl w.heap.size w).alloc (Nat.le_refl _) (.cells #[.int .i64 0, .int .i64 0, .int .i64 0, .int .i64 0] 46)
  have h1 := h.below b1
  have HS := Lib.hid (Spot_row h1 i p hp)
  have HB := Lib.hid b1
  clear h h1 hp b1
  go_enter Tryz.func207, Tryz.ntmps207
  go_wp2_with (go_at_call 209; refine (of_ticket _ _).mono ?_; rintro e w' ⟨rfl, rfl⟩)
  go_wp2_with fail
  refine HS.out.mono ?_
  rintro en w2 ⟨rfl, b2⟩
  have hs : w.heap.size < w2.heap.size := by have := b2.size; simp at this; omega
  have hb : Blk w2 w.heap.size 46 #[.int .i64 0, .int .i64 0, .int .i64 0, .int .i64 0] := Turns.blk (S := []) (Turns.of_below b2) (Blk.new w 46 #[.int .i64 0, .int .i64 0, .int .i64 0, .int .i64 0]) (by simp)
  have z0 := hb.cell 0
  have z1 := hb.cell 1
  have z2 := hb.cell 2
  have z3 := hb.cell 3
  have f0 := hb.free 0
  have f1 := hb.free 1
  have f2 := hb.free 2
  have f3 := hb.free 3
  have H2 := Lib.hid (And.intro b2 hb)
  clear b2 hb
  obtain ⟨pc, u, b, z⟩ := p
  unfold spotV
  go_wp2
  exact bodyPost_ret (results_cell_row (by rfl) _ _ w.heap.size 46 _ (0, 0) _ (by rfl) (by exact ((((H2.out.2.set_ 0 _).set_ 1 _).set_ 2 _).set_ 3 _)) Tryz.underlying46 rfl (by kernel_rfl)) rfl ⟨rfl, ((((HB.out.trans (H2.out.1.mono (by simp))).setCell (Nat.le_refl _) _).setCell (Nat.le_refl _) _).setCell (Nat.le_refl _) _).setCell (Nat.le_refl _) _⟩
def FlStOk (w : World) (a g k : Nat) (x : Fx) (s : Ar) (S : List Sp) (i : Nat) (p : Sp) (e : Ending) (w' : World) : Prop :=
  e = .returned (.bool (cameK p (stepK k x.t x.m s i p).2)) ∧ FlIs w' a g k x (stepK k x.t x.m s i p).1 (S.set i (stepK k x.t x.m s i p).2) ∧ Turns [a, g, x.q] w w'
def FlAlOk (w : World) (a g k : Nat) (x : Fx) (s : Ar) (S : List Sp) (i : Nat) (p : Sp) (e : Ending) (w' : World) : Prop :=
  e = .returned (.bool (aloneK k x.t s i p).2) ∧ FlIs w' a g k x (aloneK k x.t s i p).1 S ∧ Turns [a, g, x.q] w w'
set_option maxHeartbeats 1000000 in
theorem fl_ask_2 (h : FlIs w a g 2 x s S) (i : Nat) (p : Sp) (hp : S[i]? = some p) :
    Calls Tryz.prog 44 #[.pointer (some ⟨x.p, 0, none⟩), .int .i64 i] w fun e w' => e = .returned (.bool (decide (p.pc = 0))) ∧ FlIs w' a g 2 x s (S.set i (askK 2 p)) ∧ Turns [x.q] w w' := by
  have HM := Lib.hid (made_fl h (by decide))
  have c1 : w.cell? ⟨x.p, 1, none⟩ = some (ifV 2 x.l) := h.p.cell 1
  unfold ifV at c1
  have H := Lib.hid h
  have HC := Lib.hid (fun (k : KIs w a g 2 x s S) => ask_ticket k i p hp)
  have H2 := Lib.hid (HC.out h.ki)
  clear h hp HC
  go_enter Tryz.func44, Tryz.ntmps44
  go_wp2_with fail
  refine HM.out.mono ?_
  rintro en w1 ⟨rfl, rfl⟩
  go_wp2_with fail
  refine H2.out.mono ?_
  rintro en w2 ⟨rfl, k2, t2⟩
  have H3 := Lib.hid (And.intro k2 t2)
  clear k2 t2
  go_wp2
  go_ret
  exact ⟨rfl, H.out.to (turns_qag H3.out.2) H3.out.1, H3.out.2⟩
set_option maxHeartbeats 1000000 in
theorem fl_ask_4 (h : FlIs w a g 4 x s S) (i : Nat) (p : Sp) (hp : S[i]? = some p) :
    Calls Tryz.prog 44 #[.pointer (some ⟨x.p, 0, none⟩), .int .i64 i] w fun e w' => e = .returned (.bool (decide (p.pc = 0))) ∧ FlIs w' a g 4 x s (S.set i (askK 4 p)) ∧ Turns [x.q] w w' := by
  have HM := Lib.hid (made_fl h (by decide))
  have c1 : w.cell? ⟨x.p, 1, none⟩ = some (ifV 4 x.l) := h.p.cell 1
  unfold ifV at c1
  have H := Lib.hid h
  have HC := Lib.hid (fun (k : KIs w a g 4 x s S) => ask_mcs k i p hp)
  have H2 := Lib.hid (HC.out h.ki)
  clear h hp HC
  go_enter Tryz.func44, Tryz.ntmps44
  go_wp2_with fail
  refine HM.out.mono ?_
  rintro en w1 ⟨rfl, rfl⟩
  go_wp2_with fail
  refine H2.out.mono ?_
  rintro en w2 ⟨rfl, k2, t2⟩
  have H3 := Lib.hid (And.intro k2 t2)
  clear k2 t2
  go_wp2
  go_ret
  exact ⟨rfl, H.out.to (turns_qag H3.out.2) H3.out.1, H3.out.2⟩
theorem fl_ask (h : FlIs w a g k x s S) (hk : KOk k) (i : Nat) (p : Sp) (hp : S[i]? = some p) :
    Calls Tryz.prog 44 #[.pointer (some ⟨x.p, 0, none⟩), .int .i64 i] w fun e w' => e = .returned (.bool (decide (p.pc = 0))) ∧ FlIs w' a g k x s (S.set i (askK k p)) ∧ Turns [x.q] w w' := by
  rcases hk with rfl | rfl
  · exact fl_ask_2 h i p hp
  · exact fl_ask_4 h i p hp
set_option maxHeartbeats 1000000 in
theorem fl_leave_2 (h : FlIs w a g 2 x s S) (i : Nat) (p : Sp) (hp : S[i]? = some p) :
    Calls Tryz.prog 92 #[.pointer (some ⟨x.p, 0, none⟩), .int .i64 i] w fun e w' => e = .returned (.bool (decide (p.pc = 10))) ∧ FlIs w' a g 2 x s (S.set i (leaveK p)) ∧ Turns [x.q] w w' := by
  have HM := Lib.hid (made_fl h (by decide))
  have c1 : w.cell? ⟨x.p, 1, none⟩ = some (ifV 2 x.l) := h.p.cell 1
  unfold ifV at c1
  have H := Lib.hid h
  have HC := Lib.hid (fun (k : KIs w a g 2 x s S) => leave_ticket k i p hp)
  have H2 := Lib.hid (HC.out h.ki)
  clear h hp HC
  go_enter Tryz.func92, Tryz.ntmps92
  go_wp2_with fail
  refine HM.out.mono ?_
  rintro en w1 ⟨rfl, rfl⟩
  go_wp2_with fail
  refine H2.out.mono ?_
  rintro en w2 ⟨rfl, k2, t2⟩
  have H3 := Lib.hid (And.intro k2 t2)
  clear k2 t2
  go_wp2
  go_ret
  exact ⟨rfl, H.out.to (turns_qag H3.out.2) H3.out.1, H3.out.2⟩
set_option maxHeartbeats 1000000 in
theorem fl_leave_4 (h : FlIs w a g 4 x s S) (i : Nat) (p : Sp) (hp : S[i]? = some p) :
    Calls Tryz.prog 92 #[.pointer (some ⟨x.p, 0, none⟩), .int .i64 i] w fun e w' => e = .returned (.bool (decide (p.pc = 10))) ∧ FlIs w' a g 4 x s (S.set i (leaveK p)) ∧ Turns [x.q] w w' := by
  have HM := Lib.hid (made_fl h (by decide))
  have c1 : w.cell? ⟨x.p, 1, none⟩ = some (ifV 4 x.l) := h.p.cell 1
  unfold ifV at c1
  have H := Lib.hid h
  have HC := Lib.hid (fun (k : KIs w a g 4 x s S) => leave_mcs k i p hp)
  have H2 := Lib.hid (HC.out h.ki)
  clear h hp HC
  go_enter Tryz.func92, Tryz.ntmps92
  go_wp2_with fail
  refine HM.out.mono ?_
  rintro en w1 ⟨rfl, rfl⟩
  go_wp2_with fail
  refine H2.out.mono ?_
  rintro en w2 ⟨rfl, k2, t2⟩
  have H3 := Lib.hid (And.intro k2 t2)
  clear k2 t2
  go_wp2
  go_ret
  exact ⟨rfl, H.out.to (turns_qag H3.out.2) H3.out.1, H3.out.2⟩
theorem fl_leave (h : FlIs w a g k x s S) (hk : KOk k) (i : Nat) (p : Sp) (hp : S[i]? = some p) :
    Calls Tryz.prog 92 #[.pointer (some ⟨x.p, 0, none⟩), .int .i64 i] w fun e w' => e = .returned (.bool (decide (p.pc = 10))) ∧ FlIs w' a g k x s (S.set i (leaveK p)) ∧ Turns [x.q] w w' := by
  rcases hk with rfl | rfl
  · exact fl_leave_2 h i p hp
  · exact fl_leave_4 h i p hp
set_option maxHeartbeats 1000000 in
theorem fl_step_2 (h : FlIs w a g 2 x s S) (i : Nat) (p : Sp) (hp : S[i]? = some p) {B : Int} (C : PreK 2 x s S B) (hc : pcK 2 p) :
    Calls Tryz.prog 87 #[.pointer (some ⟨x.p, 0, none⟩), .int .i64 i] w (FlStOk w a g 2 x s S i p) := by
  have HM := Lib.hid (made_fl h (by decide))
  have c1 : w.cell? ⟨x.p, 1, none⟩ = some (ifV 2 x.l) := h.p.cell 1
  unfold ifV at c1
  have H := Lib.hid h
  have HC := Lib.hid (fun (k : KIs w a g 2 x s S) => step_tick k C i p hp hc)
  have H2 := Lib.hid (HC.out h.ki)
  clear h hp HC C hc
  go_enter Tryz.func87, Tryz.ntmps87
  go_wp2_with fail
  refine HM.out.mono ?_
  rintro en w1 ⟨rfl, rfl⟩
  go_wp2_with fail
  refine H2.out.mono ?_
  rintro en w2 ⟨rfl, k2, t2⟩
  have H3 := Lib.hid (And.intro k2 t2)
  clear k2 t2
  go_wp2
  go_ret
  exact ⟨rfl, H.out.to H3.out.2 H3.out.1, H3.out.2⟩
set_option maxHeartbeats 1000000 in
theorem fl_step_4 (h : FlIs w a g 4 x s S) (i : Nat) (p : Sp) (hp : S[i]? = some p) {B : Int} (C : PreK 4 x s S B) (hc : pcK 4 p) :
    Calls Tryz.prog 87 #[.pointer (some ⟨x.p, 0, none⟩), .int .i64 i] w (FlStOk w a g 4 x s S i p) := by
  have HM := Lib.hid (made_fl h (by decide))
  have c1 : w.cell? ⟨x.p, 1, none⟩ = some (ifV 4 x.l) := h.p.cell 1
  unfold ifV at c1
  have H := Lib.hid h
  have HC := Lib.hid (fun (k : KIs w a g 4 x s S) => step_mcs k C i p hp hc)
  have H2 := Lib.hid (HC.out h.ki)
  clear h hp HC C hc
  go_enter Tryz.func87, Tryz.ntmps87
  go_wp2_with fail
  refine HM.out.mono ?_
  rintro en w1 ⟨rfl, rfl⟩
  go_wp2_with fail
  refine H2.out.mono ?_
  rintro en w2 ⟨rfl, k2, t2⟩
  have H3 := Lib.hid (And.intro k2 t2)
  clear k2 t2
  go_wp2
  go_ret
  exact ⟨rfl, H.out.to H3.out.2 H3.out.1, H3.out.2⟩
theorem fl_step (h : FlIs w a g k x s S) (hk : KOk k) (i : Nat) (p : Sp) (hp : S[i]? = some p) {B : Int} (C : PreK k x s S B) (hc : pcK k p) :
    Calls Tryz.prog 87 #[.pointer (some ⟨x.p, 0, none⟩), .int .i64 i] w (FlStOk w a g k x s S i p) := by
  rcases hk with rfl | rfl
  · exact fl_step_2 h i p hp C hc
  · exact fl_step_4 h i p hp C hc
set_option maxHeartbeats 1000000 in
theorem fl_alone_2 (h : FlIs w a g 2 x s S) (i : Nat) (p : Sp) (hp : S[i]? = some p) {B : Int} (C : PreK 2 x s S B) (hc : p.pc = 10) :
    Calls Tryz.prog 91 #[.pointer (some ⟨x.p, 0, none⟩), .int .i64 i] w (FlAlOk w a g 2 x s S i p) := by
  have HM := Lib.hid (made_fl h (by decide))
  have c1 : w.cell? ⟨x.p, 1, none⟩ = some (ifV 2 x.l) := h.p.cell 1
  unfold ifV at c1
  have H := Lib.hid h
  have HC := Lib.hid (fun (k : KIs w a g 2 x s S) => alone_tick k i p hp hc C.ops (by have := (C.sp hp).a0; omega) (by have := (C.sp hp).a1; have := C.B1; omega))
  have H2 := Lib.hid (HC.out h.ki)
  clear h hp HC C hc
  go_enter Tryz.func91, Tryz.ntmps91
  go_wp2_with fail
  refine HM.out.mono ?_
  rintro en w1 ⟨rfl, rfl⟩
  go_wp2_with fail
  refine H2.out.mono ?_
  rintro en w2 ⟨rfl, k2, t2⟩
  have H3 := Lib.hid (And.intro k2 t2)
  clear k2 t2
  go_wp2
  go_ret
  exact ⟨rfl, H.out.to H3.out.2 H3.out.1, H3.out.2⟩
set_option maxHeartbeats 1000000 in
theorem fl_alone_4 (h : FlIs w a g 4 x s S) (i : Nat) (p : Sp) (hp : S[i]? = some p) {B : Int} (C : PreK 4 x s S B) (hc : p.pc = 10) :
    Calls Tryz.prog 91 #[.pointer (some ⟨x.p, 0, none⟩), .int .i64 i] w (FlAlOk w a g 4 x s S i p) := by
  have HM := Lib.hid (made_fl h (by decide))
  have c1 : w.cell? ⟨x.p, 1, none⟩ = some (ifV 4 x.l) := h.p.cell 1
  unfold ifV at c1
  have H := Lib.hid h
  have HC := Lib.hid (fun (k : KIs w a g 4 x s S) => alone_mcs k i p hp hc C.ops)
  have H2 := Lib.hid (HC.out h.ki)
  clear h hp HC C hc
  go_enter Tryz.func91, Tryz.ntmps91
  go_wp2_with fail
  refine HM.out.mono ?_
  rintro en w1 ⟨rfl, rfl⟩
  go_wp2_with fail
  refine H2.out.mono ?_
  rintro en w2 ⟨rfl, k2, t2⟩
  have H3 := Lib.hid (And.intro k2 t2)
  clear k2 t2
  go_wp2
  go_ret
  exact ⟨rfl, H.out.to H3.out.2 H3.out.1, H3.out.2⟩
theorem fl_alone (h : FlIs w a g k x s S) (hk : KOk k) (i : Nat) (p : Sp) (hp : S[i]? = some p) {B : Int} (C : PreK k x s S B) (hc : p.pc = 10) :
    Calls Tryz.prog 91 #[.pointer (some ⟨x.p, 0, none⟩), .int .i64 i] w (FlAlOk w a g k x s S i p) := by
  rcases hk with rfl | rfl
  · exact fl_alone_2 h i p hp C hc
  · exact fl_alone_4 h i p hp C hc
set_option maxHeartbeats 1000000 in
theorem fl_spot_2 (h : FlIs w a g 2 x s S) (i : Nat) (p : Sp) (hp : S[i]? = some p) :
    Calls Tryz.prog 48 #[.pointer (some ⟨x.p, 0, none⟩), .int .i64 i] w fun e w' => e = .returned (spotV p) ∧ Below w.heap.size w w' := by
  have hx := h.p.lt
  have b1 := (Below.refl w.heap.size w).alloc (Nat.le_refl _) (.cells #[.int .i64 0, .int .i64 0, .int .i64 0, .int .i64 0] 46)
  have h1 := h.below b1
  have c1 : (w.alloc (.cells #[.int .i64 0, .int .i64 0, .int .i64 0, .int .i64 0] 46)).cell? ⟨x.p, 1, none⟩ = some (ifV 2 x.l) := h1.p.cell 1
  unfold ifV at c1
  have HM := Lib.hid (made_fl h1 (by decide))
  have HS := Lib.hid (Spot_ticket h1.ki i p hp)
  have HB := Lib.hid b1
  clear h h1 hp b1
  go_enter Tryz.func48, Tryz.ntmps48
  go_wp2_with fail
  refine HM.out.mono ?_
  rintro en w1 ⟨rfl, rfl⟩
  go_wp2_with fail
  refine HS.out.mono ?_
  rintro en w2 ⟨rfl, b2⟩
  have hs : w.heap.size < w2.heap.size := by have := b2.size; simp at this; omega
  have hb : Blk w2 w.heap.size 46 #[.int .i64 0, .int .i64 0, .int .i64 0, .int .i64 0] := Turns.blk (S := []) (Turns.of_below b2) (Blk.new w 46 #[.int .i64 0, .int .i64 0, .int .i64 0, .int .i64 0]) (by simp)
  have z0 := hb.cell 0
  have z1 := hb.cell 1
  have z2 := hb.cell 2
  have z3 := hb.cell 3
  have f0 := hb.free 0
  have f1 := hb.free 1
  have f2 := hb.free 2
  have f3 := hb.free 3
  have H2 := Lib.hid (And.intro b2 hb)
  clear b2 hb
  obtain ⟨pc, u, b, z⟩ := p
  unfold spotV
  go_wp2
  exact bodyPost_ret (results_cell_row (by rfl) _ _ w.heap.size 46 _ (0, 0) _ (by rfl) (by exact ((((H2.out.2.set_ 0 _).set_ 1 _).set_ 2 _).set_ 3 _)) Tryz.underlying46 rfl (by kernel_rfl)) rfl ⟨rfl, ((((HB.out.trans (H2.out.1.mono (by simp))).setCell (Nat.le_refl _) _).setCell (Nat.le_refl _) _).setCell (Nat.le_refl _) _).setCell (Nat.le_refl _) _⟩
set_option maxHeartbeats 1000000 in
theorem fl_spot_4 (h : FlIs w a g 4 x s S) (i : Nat) (p : Sp) (hp : S[i]? = some p) :
    Calls Tryz.prog 48 #[.pointer (some ⟨x.p, 0, none⟩), .int .i64 i] w fun e w' => e = .returned (spotV p) ∧ Below w.heap.size w w' := by
  have hx := h.p.lt
  have b1 := (Below.refl w.heap.size w).alloc (Nat.le_refl _) (.cells #[.int .i64 0, .int .i64 0, .int .i64 0, .int .i64 0] 46)
  have h1 := h.below b1
  have c1 : (w.alloc (.cells #[.int .i64 0, .int .i64 0, .int .i64 0, .int .i64 0] 46)).cell? ⟨x.p, 1, none⟩ = some (ifV 4 x.l) := h1.p.cell 1
  unfold ifV at c1
  have HM := Lib.hid (made_fl h1 (by decide))
  have HS := Lib.hid (Spot_mcs h1.ki i p hp)
  have HB := Lib.hid b1
  clear h h1 hp b1
  go_enter Tryz.func48, Tryz.ntmps48
  go_wp2_with fail
  refine HM.out.mono ?_
  rintro en w1 ⟨rfl, rfl⟩
  go_wp2_with fail
  refine HS.out.mono ?_
  rintro en w2 ⟨rfl, b2⟩
  have hs : w.heap.size < w2.heap.size := by have := b2.size; simp at this; omega
  have hb : Blk w2 w.heap.size 46 #[.int .i64 0, .int .i64 0, .int .i64 0, .int .i64 0] := Turns.blk (S := []) (Turns.of_below b2) (Blk.new w 46 #[.int .i64 0, .int .i64 0, .int .i64 0, .int .i64 0]) (by simp)
  have z0 := hb.cell 0
  have z1 := hb.cell 1
  have z2 := hb.cell 2
  have z3 := hb.cell 3
  have f0 := hb.free 0
  have f1 := hb.free 1
  have f2 := hb.free 2
  have f3 := hb.free 3
  have H2 := Lib.hid (And.intro b2 hb)
  clear b2 hb
  obtain ⟨pc, u, b, z⟩ := p
  unfold spotV
  go_wp2
  exact bodyPost_ret (results_cell_row (by rfl) _ _ w.heap.size 46 _ (0, 0) _ (by rfl) (by exact ((((H2.out.2.set_ 0 _).set_ 1 _).set_ 2 _).set_ 3 _)) Tryz.underlying46 rfl (by kernel_rfl)) rfl ⟨rfl, ((((HB.out.trans (H2.out.1.mono (by simp))).setCell (Nat.le_refl _) _).setCell (Nat.le_refl _) _).setCell (Nat.le_refl _) _).setCell (Nat.le_refl _) _⟩
theorem fl_spot (h : FlIs w a g k x s S) (hk : KOk k) (i : Nat) (p : Sp) (hp : S[i]? = some p) :
    Calls Tryz.prog 48 #[.pointer (some ⟨x.p, 0, none⟩), .int .i64 i] w fun e w' => e = .returned (spotV p) ∧ Below w.heap.size w w' := by
  rcases hk with rfl | rfl
  · exact fl_spot_2 h i p hp
  · exact fl_spot_4 h i p hp
end
end Go.Proofs.YtfiigndlnihioaaGreat
end
