/- Joined: FlU, FlV, FlW. -/
import Derived.BigRegion
import Derived.Test.YtagajjilccjplaaGreatMgFamilyPasses1
import Derived.Test.YtagajjilccjplaaGreatMgFamilyPasses3
section
set_option linter.unusedVariables false
set_option linter.unusedSimpArgs false
/- Layer 18 (mcs): next, wait; in and out, a step at a time (printed by gen_flm.py). -/
namespace Go.Proofs.YtagajjilccjplaaGreat
open Go.RowKit

section
variable {w w' : World} {a g k : Nat} {x : Fx} {s : Ar} {S : List Sp}
theorem KIs.mi (h : KIs w a g 4 x s S) : w.cell? ⟨x.l, 0, none⟩ = some (.pointer (some ⟨a, 0, none⟩)) ∧ w.cell? ⟨x.l, 1, none⟩ = some (.int .i64 x.t) := ⟨h.lk.cell 0, h.lk.cell 1⟩
theorem KIs.samS {i : Nat} {p : Sp} (h : KIs w a g k x s S) (hp : S[i]? = some p) : KIs w a g k x s (S.set i p) := by rw [setS_id hp]; exact h
theorem next_mcs (h : KIs w a g 4 x s S) (y : Int) (hy : -10 ≤ y ∧ y ≤ 10000000000000) : Calls Tryz.prog 400 #[.pointer (some ⟨x.l, 0, none⟩), .int .i64 y] w fun e w' => e = .returned (.int .i64 (mNx x.t y)) ∧ w = w' := by
  have c1 := h.mi.2
  have t1 := h.t1
  have x1 : IntKind.i64.wrap (2 * y) = 2 * y := IntWalk.i64_in _ (by omega)
  have x2 : IntKind.i64.wrap ((x.t : Int) + 2 * y) = (x.t : Int) + 2 * y := IntWalk.i64_in _ (by omega)
  have x3 : IntKind.i64.wrap ((x.t : Int) + 2 * y - 1) = (x.t : Int) + 2 * y - 1 := IntWalk.i64_in _ (by omega)
  clear h
  go_enter Tryz.func400, Tryz.ntmps400
  go_wp2
  go_ret
  exact ⟨rfl, rfl⟩
theorem wait_mcs (h : KIs w a g 4 x s S) (y : Int) (hy : -10 ≤ y ∧ y ≤ 10000000000000) : Calls Tryz.prog 406 #[.pointer (some ⟨x.l, 0, none⟩), .int .i64 y] w fun e w' => e = .returned (.int .i64 (mWt x.t y)) ∧ w = w' := by
  have c1 := h.mi.2
  have t1 := h.t1
  have x1 : IntKind.i64.wrap (2 * y) = 2 * y := IntWalk.i64_in _ (by omega)
  have x2 : IntKind.i64.wrap ((x.t : Int) + 2 * y) = (x.t : Int) + 2 * y := IntWalk.i64_in _ (by omega)
  clear h
  go_enter Tryz.func406, Tryz.ntmps406
  go_wp2
  go_ret
  exact ⟨rfl, rfl⟩
def MidK (w : World) (a g : Nat) (x : Fx) (S : List Sp) (i : Nat) (p : Sp) (r : Ar × Sp) (e : Ending) (w' : World) : Prop :=
  e = .returned (.int .i64 r.2.pc) ∧ KIs w' a g 4 x r.1 (S.set i { r.2 with pc := p.pc }) ∧ Turns [a, g, x.q] w w'
set_option maxRecDepth 100000 in
set_option maxHeartbeats 2000000 in
theorem m_in1 (h : KIs w a g 4 x s S) (i : Nat) (hin : i < x.n) (u b z : Int) (hp : S[i]? = some (⟨1, u, b, z⟩ : Sp)) (ho : s.ops + 1 ≤ 1000000000000) :
    Calls Tryz.prog 404 #[.pointer (some ⟨x.l, 0, none⟩), .pointer (some ⟨x.q, i * 4, none⟩), .int .i64 ((i : Int) + 1)] w (MidK w a g x S i (⟨1, u, b, z⟩ : Sp) (mcsIn x.t s ((i : Int) + 1) (⟨1, u, b, z⟩ : Sp))) := by
  have hn := h.n32
  have e0 := h.sp.cell hp 0 _ rfl
  simp only [Nat.add_zero] at e0
  obtain ⟨ar', har⟩ : ∃ q, q = storeA s (mNx x.t ((i : Int) + 1)) 0 := ⟨_, rfl⟩
  have HX : Hid (mcsIn x.t s ((i : Int) + 1) (⟨1, u, b, z⟩ : Sp) = (ar', ⟨2, u, b, z⟩)) := Lib.hid (by rw [har]; rfl)
  have HF := Lib.hid (fun W (k : KIs W a g 4 x s S) => next_mcs k ((i : Int) + 1) (by omega))
  have HO0 := (fun W (k : KIs W a g 4 x s S) => store_any k.ar (mNx x.t ((i : Int) + 1)) 0 ho)
  rw [← har] at HO0
  have HO := Lib.hid HO0
  have HC := Lib.hid (fun W s (S : List Sp) (k : KIs W a g 4 x s S) (hp : S[i]? = some (⟨1, u, b, z⟩ : Sp)) => k.mi.1)
  have HP := Lib.hid hp
  have HL := Lib.hid (show i < S.length by rw [h.n]; exact hin)
  have K1 := Lib.hid (h.below ((Below.refl _ w).drew))
  clear HO0 h hp har
  go_enter Tryz.func404, Tryz.ntmps404
  go_wp2_with fail
  go_region_held3 (fun W => W.cell? ⟨x.l, 0, none⟩ = some (.pointer (some ⟨a, 0, none⟩)))
    (first | with_reducible exact HC.out _ _ _ K1.out HP.out | with_reducible exact HC.out _ _ _ K2.out HP.out)
    (first
      | (go_at_call 400; go_loud (refine (HF.out _ K1.out).mono ?_); rintro en w2 ⟨rfl, rfl⟩)
      | (go_at_call 144; go_loud (refine (HO.out _ K1.out).mono ?_); rintro en w3 ⟨rfl, a3, t3⟩; have K2 := Lib.hid (K1.out.op t3 a3); have T2 := Lib.hid (((Turns.refl [a, g, x.q] w).drew).trans (turns_agq t3)); clear a3 t3))
  all_goals
    go_wp2
    go_ret
    rw [HX.out]
    exact ⟨rfl, K2.out.samS HP.out, T2.out⟩
set_option maxRecDepth 100000 in
set_option maxHeartbeats 2000000 in
theorem m_in2 (h : KIs w a g 4 x s S) (i : Nat) (hin : i < x.n) (u b z : Int) (hp : S[i]? = some (⟨2, u, b, z⟩ : Sp)) (ho : s.ops + 1 ≤ 1000000000000) :
    Calls Tryz.prog 404 #[.pointer (some ⟨x.l, 0, none⟩), .pointer (some ⟨x.q, i * 4, none⟩), .int .i64 ((i : Int) + 1)] w (MidK w a g x S i (⟨2, u, b, z⟩ : Sp) (mcsIn x.t s ((i : Int) + 1) (⟨2, u, b, z⟩ : Sp))) := by
  have hn := h.n32
  have e0 := h.sp.cell hp 0 _ rfl
  simp only [Nat.add_zero] at e0
  obtain ⟨ar', har⟩ : ∃ q, q = storeA s (mWt x.t ((i : Int) + 1)) 1 := ⟨_, rfl⟩
  have HX : Hid (mcsIn x.t s ((i : Int) + 1) (⟨2, u, b, z⟩ : Sp) = (ar', ⟨3, u, b, z⟩)) := Lib.hid (by rw [har]; rfl)
  have HF := Lib.hid (fun W (k : KIs W a g 4 x s S) => wait_mcs k ((i : Int) + 1) (by omega))
  have HO0 := (fun W (k : KIs W a g 4 x s S) => store_any k.ar (mWt x.t ((i : Int) + 1)) 1 ho)
  rw [← har] at HO0
  have HO := Lib.hid HO0
  have HC := Lib.hid (fun W s (S : List Sp) (k : KIs W a g 4 x s S) (hp : S[i]? = some (⟨2, u, b, z⟩ : Sp)) => k.mi.1)
  have HP := Lib.hid hp
  have HL := Lib.hid (show i < S.length by rw [h.n]; exact hin)
  have K1 := Lib.hid (h.below ((Below.refl _ w).drew))
  clear HO0 h hp har
  go_enter Tryz.func404, Tryz.ntmps404
  go_wp2_with fail
  go_region_held3 (fun W => W.cell? ⟨x.l, 0, none⟩ = some (.pointer (some ⟨a, 0, none⟩)))
    (first | with_reducible exact HC.out _ _ _ K1.out HP.out | with_reducible exact HC.out _ _ _ K2.out HP.out)
    (first
      | (go_at_call 406; go_loud (refine (HF.out _ K1.out).mono ?_); rintro en w2 ⟨rfl, rfl⟩)
      | (go_at_call 144; go_loud (refine (HO.out _ K1.out).mono ?_); rintro en w3 ⟨rfl, a3, t3⟩; have K2 := Lib.hid (K1.out.op t3 a3); have T2 := Lib.hid (((Turns.refl [a, g, x.q] w).drew).trans (turns_agq t3)); clear a3 t3))
  all_goals
    go_wp2
    go_ret
    rw [HX.out]
    exact ⟨rfl, K2.out.samS HP.out, T2.out⟩
set_option maxRecDepth 100000 in
set_option maxHeartbeats 2000000 in
theorem m_in4 (h : KIs w a g 4 x s S) (i : Nat) (hin : i < x.n) (u b z : Int) (hp : S[i]? = some (⟨4, u, b, z⟩ : Sp)) (ho : s.ops + 1 ≤ 1000000000000) (hu : -10 ≤ u ∧ u ≤ 10000000000000) :
    Calls Tryz.prog 404 #[.pointer (some ⟨x.l, 0, none⟩), .pointer (some ⟨x.q, i * 4, none⟩), .int .i64 ((i : Int) + 1)] w (MidK w a g x S i (⟨4, u, b, z⟩ : Sp) (mcsIn x.t s ((i : Int) + 1) (⟨4, u, b, z⟩ : Sp))) := by
  have hn := h.n32
  have e0 := h.sp.cell hp 0 _ rfl
  simp only [Nat.add_zero] at e0
  obtain ⟨ar', har⟩ : ∃ q, q = storeA s (mNx x.t u) ((i : Int) + 1) := ⟨_, rfl⟩
  have HX : Hid (mcsIn x.t s ((i : Int) + 1) (⟨4, u, b, z⟩ : Sp) = (ar', ⟨5, u, b, z⟩)) := Lib.hid (by rw [har]; rfl)
  have HF := Lib.hid (fun W (k : KIs W a g 4 x s S) => next_mcs k u (by exact hu))
  have HO0 := (fun W (k : KIs W a g 4 x s S) => store_any k.ar (mNx x.t u) ((i : Int) + 1) ho)
  rw [← har] at HO0
  have HO := Lib.hid HO0
  have HC := Lib.hid (fun W s (S : List Sp) (k : KIs W a g 4 x s S) (hp : S[i]? = some (⟨4, u, b, z⟩ : Sp)) => (And.intro k.mi.1 (k.sp.cell hp 1 _ rfl)))
  have HP := Lib.hid hp
  have HL := Lib.hid (show i < S.length by rw [h.n]; exact hin)
  have K1 := Lib.hid (h.below ((Below.refl _ w).drew))
  clear HO0 h hp har
  go_enter Tryz.func404, Tryz.ntmps404
  go_wp2_with fail
  go_region_held3 (fun W => W.cell? ⟨x.l, 0, none⟩ = some (.pointer (some ⟨a, 0, none⟩)) ∧ W.cell? ⟨x.q, i * 4 + 1, none⟩ = some (.int .i64 u))
    (first | with_reducible exact HC.out _ _ _ K1.out HP.out | with_reducible exact HC.out _ _ _ K2.out HP.out)
    (first
      | (go_at_call 400; go_loud (refine (HF.out _ K1.out).mono ?_); rintro en w2 ⟨rfl, rfl⟩)
      | (go_at_call 144; go_loud (refine (HO.out _ K1.out).mono ?_); rintro en w3 ⟨rfl, a3, t3⟩; have K2 := Lib.hid (K1.out.op t3 a3); have T2 := Lib.hid (((Turns.refl [a, g, x.q] w).drew).trans (turns_agq t3)); clear a3 t3))
  all_goals
    go_wp2
    go_ret
    rw [HX.out]
    exact ⟨rfl, K2.out.samS HP.out, T2.out⟩
set_option maxRecDepth 100000 in
set_option maxHeartbeats 2000000 in
theorem m_in3 (h : KIs w a g 4 x s S) (i : Nat) (hin : i < x.n) (u b z : Int) (hp : S[i]? = some (⟨3, u, b, z⟩ : Sp)) (ho : s.ops + 1 ≤ 1000000000000) :
    Calls Tryz.prog 404 #[.pointer (some ⟨x.l, 0, none⟩), .pointer (some ⟨x.q, i * 4, none⟩), .int .i64 ((i : Int) + 1)] w (MidK w a g x S i (⟨3, u, b, z⟩ : Sp) (mcsIn x.t s ((i : Int) + 1) (⟨3, u, b, z⟩ : Sp))) := by
  have hn := h.n32
  have e0 := h.sp.cell hp 0 _ rfl
  simp only [Nat.add_zero] at e0
  obtain ⟨ar', har⟩ : ∃ q, q = swapA s (x.t : Int) ((i : Int) + 1) := ⟨_, rfl⟩
  obtain ⟨v, hv⟩ : ∃ v, v = ldW s.W (x.t : Int) := ⟨_, rfl⟩
  have HX : Hid (mcsIn x.t s ((i : Int) + 1) (⟨3, u, b, z⟩ : Sp) = (ar', (⟨if v = 0 then 10 else 4, v, b, z⟩ : Sp))) := Lib.hid (by rw [har, hv]; rfl)
  have HO0 := (fun W (k : KIs W a g 4 x s S) => swap_any k.ar (x.t : Int) ((i : Int) + 1) ho)
  rw [← har, ← hv] at HO0
  have HO := Lib.hid HO0
  have HC := Lib.hid (fun W s (S : List Sp) (y : Int) (k : KIs W a g 4 x s S) (hp : S[i]? = some (⟨3, y, b, z⟩ : Sp)) => (And.intro k.mi.1 k.mi.2))
  have HP := Lib.hid hp
  have HL := Lib.hid (show i < S.length by rw [h.n]; exact hin)
  have K1 := Lib.hid (h.below ((Below.refl _ w).drew))
  clear HO0 h hp har hv
  cases hc : (v == 0)
  all_goals
    go_enter Tryz.func404, Tryz.ntmps404
    go_wp2_with fail
    go_region_held3 (fun W => W.cell? ⟨x.l, 0, none⟩ = some (.pointer (some ⟨a, 0, none⟩)) ∧ W.cell? ⟨x.l, 1, none⟩ = some (.int .i64 x.t))
      (first | with_reducible exact HC.out _ _ _ _ K1.out HP.out | with_reducible exact HC.out _ _ _ _ K2.out HP.out | with_reducible exact HC3.out)
      (first
        | (go_at_call 229; go_loud (refine (HO.out _ K1.out).mono ?_); rintro en w3 ⟨rfl, a3, t3⟩; have K2 := Lib.hid (K1.out.op t3 a3); have T2 := Lib.hid (((Turns.refl [a, g, x.q] w).drew).trans (turns_agq t3)); have K3 := Lib.hid (K2.out.put (p' := (⟨3, v, b, z⟩ : Sp)) HP.out (j := 1) (u := .int .i64 v) (by decide) rfl); have HC3 := Lib.hid (HC.out _ _ _ v K3.out (getS_set HP.out _)); have e1 := K2.out.sp.cell HP.out 1 _ rfl; have z1 := K2.out.sp.free (i * 4 + 1); clear a3 t3))
  all_goals
    go_wp2
    go_ret
    rw [HX.out]
    first
      | (rw [if_pos (by simpa using hc)]; exact ⟨rfl, K3.out, T2.out.trans (turns_qag (turns_q _ _ _))⟩)
      | (rw [if_neg (by simpa using hc)]; exact ⟨rfl, K3.out, T2.out.trans (turns_qag (turns_q _ _ _))⟩)
set_option maxRecDepth 100000 in
set_option maxHeartbeats 2000000 in
theorem m_in5 (h : KIs w a g 4 x s S) (i : Nat) (hin : i < x.n) (u b z : Int) (hp : S[i]? = some (⟨5, u, b, z⟩ : Sp)) (ho : s.ops + 1 ≤ 1000000000000) :
    Calls Tryz.prog 404 #[.pointer (some ⟨x.l, 0, none⟩), .pointer (some ⟨x.q, i * 4, none⟩), .int .i64 ((i : Int) + 1)] w (MidK w a g x S i (⟨5, u, b, z⟩ : Sp) (mcsIn x.t s ((i : Int) + 1) (⟨5, u, b, z⟩ : Sp))) := by
  have hn := h.n32
  have e0 := h.sp.cell hp 0 _ rfl
  simp only [Nat.add_zero] at e0
  obtain ⟨ar', har⟩ : ∃ q, q = loadA s (mWt x.t ((i : Int) + 1))  := ⟨_, rfl⟩
  obtain ⟨v, hv⟩ : ∃ v, v = ldW s.W (mWt x.t ((i : Int) + 1)) := ⟨_, rfl⟩
  have HX : Hid (mcsIn x.t s ((i : Int) + 1) (⟨5, u, b, z⟩ : Sp) = (ar', (⟨if v = 0 then 10 else 5, u, b, z⟩ : Sp))) := Lib.hid (by rw [har, hv]; rfl)
  have HF := Lib.hid (fun W (k : KIs W a g 4 x s S) => wait_mcs k ((i : Int) + 1) (by omega))
  have HO0 := (fun W (k : KIs W a g 4 x s S) => load_any k.ar (mWt x.t ((i : Int) + 1))  ho)
  rw [← har, ← hv] at HO0
  have HO := Lib.hid HO0
  have HC := Lib.hid (fun W s (S : List Sp) (k : KIs W a g 4 x s S) (hp : S[i]? = some (⟨5, u, b, z⟩ : Sp)) => k.mi.1)
  have HP := Lib.hid hp
  have HL := Lib.hid (show i < S.length by rw [h.n]; exact hin)
  have K1 := Lib.hid (h.below ((Below.refl _ w).drew))
  clear HO0 h hp har hv
  cases hc : (v == 0)
  all_goals
    go_enter Tryz.func404, Tryz.ntmps404
    go_wp2_with fail
    go_region_held3 (fun W => W.cell? ⟨x.l, 0, none⟩ = some (.pointer (some ⟨a, 0, none⟩)))
      (first | with_reducible exact HC.out _ _ _ K1.out HP.out | with_reducible exact HC.out _ _ _ K2.out HP.out)
      (first
        | (go_at_call 406; go_loud (refine (HF.out _ K1.out).mono ?_); rintro en w2 ⟨rfl, rfl⟩)
        | (go_at_call 140; go_loud (refine (HO.out _ K1.out).mono ?_); rintro en w3 ⟨rfl, a3, t3⟩; have K2 := Lib.hid (K1.out.op t3 a3); have T2 := Lib.hid (((Turns.refl [a, g, x.q] w).drew).trans (turns_agq t3)); clear a3 t3))
  all_goals
    go_wp2
    go_ret
    rw [HX.out]
    first
      | (rw [if_pos (by simpa using hc)]; exact ⟨rfl, K2.out.samS HP.out, T2.out⟩)
      | (rw [if_neg (by simpa using hc)]; exact ⟨rfl, K2.out.samS HP.out, T2.out⟩)
set_option maxRecDepth 100000 in
set_option maxHeartbeats 2000000 in
theorem m_out12 (h : KIs w a g 4 x s S) (i : Nat) (hin : i < x.n) (u b z : Int) (hp : S[i]? = some (⟨12, u, b, z⟩ : Sp)) (ho : s.ops + 1 ≤ 1000000000000) :
    Calls Tryz.prog 405 #[.pointer (some ⟨x.l, 0, none⟩), .pointer (some ⟨x.q, i * 4, none⟩), .int .i64 ((i : Int) + 1)] w (MidK w a g x S i (⟨12, u, b, z⟩ : Sp) (mcsOut x.t s ((i : Int) + 1) (⟨12, u, b, z⟩ : Sp))) := by
  have hn := h.n32
  have e0 := h.sp.cell hp 0 _ rfl
  simp only [Nat.add_zero] at e0
  obtain ⟨ar', har⟩ : ∃ q, q = casA s (x.t : Int) ((i : Int) + 1) 0 := ⟨_, rfl⟩
  obtain ⟨v, hv⟩ : ∃ v, v = casB s (x.t : Int) ((i : Int) + 1) := ⟨_, rfl⟩
  have HX : Hid (mcsOut x.t s ((i : Int) + 1) (⟨12, u, b, z⟩ : Sp) = (ar', (⟨if v = true then 0 else 13, u, b, z⟩ : Sp))) := Lib.hid (by rw [har, hv]; rfl)
  have HO0 := (fun W (k : KIs W a g 4 x s S) => cas_any k.ar (x.t : Int) ((i : Int) + 1) 0 ho)
  rw [← har, ← hv] at HO0
  have HO := Lib.hid HO0
  have HC := Lib.hid (fun W s (S : List Sp) (k : KIs W a g 4 x s S) (hp : S[i]? = some (⟨12, u, b, z⟩ : Sp)) => (And.intro k.mi.1 k.mi.2))
  have HP := Lib.hid hp
  have HL := Lib.hid (show i < S.length by rw [h.n]; exact hin)
  have K1 := Lib.hid (h.below ((Below.refl _ w).drew))
  clear HO0 h hp har hv
  cases hc : v
  all_goals
    go_enter Tryz.func405, Tryz.ntmps405
    go_wp2_with fail
    go_region_held3 (fun W => W.cell? ⟨x.l, 0, none⟩ = some (.pointer (some ⟨a, 0, none⟩)) ∧ W.cell? ⟨x.l, 1, none⟩ = some (.int .i64 x.t))
      (first | with_reducible exact HC.out _ _ _ K1.out HP.out | with_reducible exact HC.out _ _ _ K2.out HP.out)
      (first
        | (go_at_call 230; go_loud (refine (HO.out _ K1.out).mono ?_); rintro en w3 ⟨rfl, a3, t3⟩; have K2 := Lib.hid (K1.out.op t3 a3); have T2 := Lib.hid (((Turns.refl [a, g, x.q] w).drew).trans (turns_agq t3)); clear a3 t3))
  all_goals
    go_wp2
    go_ret
    rw [HX.out]
    first
      | (rw [if_pos (by simpa using hc)]; exact ⟨rfl, K2.out.samS HP.out, T2.out⟩)
      | (rw [if_neg (by simpa using hc)]; exact ⟨rfl, K2.out.samS HP.out, T2.out⟩)
set_option maxRecDepth 100000 in
set_option maxHeartbeats 2000000 in
theorem m_out14 (h : KIs w a g 4 x s S) (i : Nat) (hin : i < x.n) (u b z : Int) (hp : S[i]? = some (⟨14, u, b, z⟩ : Sp)) (ho : s.ops + 1 ≤ 1000000000000) (hu : -10 ≤ u ∧ u ≤ 10000000000000) :
    Calls Tryz.prog 405 #[.pointer (some ⟨x.l, 0, none⟩), .pointer (some ⟨x.q, i * 4, none⟩), .int .i64 ((i : Int) + 1)] w (MidK w a g x S i (⟨14, u, b, z⟩ : Sp) (mcsOut x.t s ((i : Int) + 1) (⟨14, u, b, z⟩ : Sp))) := by
  have hn := h.n32
  have e0 := h.sp.cell hp 0 _ rfl
  simp only [Nat.add_zero] at e0
  obtain ⟨ar', har⟩ : ∃ q, q = storeA s (mWt x.t u) 0 := ⟨_, rfl⟩
  have HX : Hid (mcsOut x.t s ((i : Int) + 1) (⟨14, u, b, z⟩ : Sp) = (ar', ⟨0, u, b, z⟩)) := Lib.hid (by rw [har]; rfl)
  have HF := Lib.hid (fun W (k : KIs W a g 4 x s S) => wait_mcs k u (by exact hu))
  have HO0 := (fun W (k : KIs W a g 4 x s S) => store_any k.ar (mWt x.t u) 0 ho)
  rw [← har] at HO0
  have HO := Lib.hid HO0
  have HC := Lib.hid (fun W s (S : List Sp) (k : KIs W a g 4 x s S) (hp : S[i]? = some (⟨14, u, b, z⟩ : Sp)) => (And.intro k.mi.1 (k.sp.cell hp 1 _ rfl)))
  have HP := Lib.hid hp
  have HL := Lib.hid (show i < S.length by rw [h.n]; exact hin)
  have K1 := Lib.hid (h.below ((Below.refl _ w).drew))
  clear HO0 h hp har
  go_enter Tryz.func405, Tryz.ntmps405
  go_wp2_with fail
  go_region_held3 (fun W => W.cell? ⟨x.l, 0, none⟩ = some (.pointer (some ⟨a, 0, none⟩)) ∧ W.cell? ⟨x.q, i * 4 + 1, none⟩ = some (.int .i64 u))
    (first | with_reducible exact HC.out _ _ _ K1.out HP.out | with_reducible exact HC.out _ _ _ K2.out HP.out)
    (first
      | (go_at_call 406; go_loud (refine (HF.out _ K1.out).mono ?_); rintro en w2 ⟨rfl, rfl⟩)
      | (go_at_call 144; go_loud (refine (HO.out _ K1.out).mono ?_); rintro en w3 ⟨rfl, a3, t3⟩; have K2 := Lib.hid (K1.out.op t3 a3); have T2 := Lib.hid (((Turns.refl [a, g, x.q] w).drew).trans (turns_agq t3)); clear a3 t3))
  all_goals
    go_wp2
    go_ret
    rw [HX.out]
    exact ⟨rfl, K2.out.samS HP.out, T2.out⟩
set_option maxRecDepth 100000 in
set_option maxHeartbeats 2000000 in
theorem m_out11 (h : KIs w a g 4 x s S) (i : Nat) (hin : i < x.n) (u b z : Int) (hp : S[i]? = some (⟨11, u, b, z⟩ : Sp)) (ho : s.ops + 1 ≤ 1000000000000) :
    Calls Tryz.prog 405 #[.pointer (some ⟨x.l, 0, none⟩), .pointer (some ⟨x.q, i * 4, none⟩), .int .i64 ((i : Int) + 1)] w (MidK w a g x S i (⟨11, u, b, z⟩ : Sp) (mcsOut x.t s ((i : Int) + 1) (⟨11, u, b, z⟩ : Sp))) := by
  have hn := h.n32
  have e0 := h.sp.cell hp 0 _ rfl
  simp only [Nat.add_zero] at e0
  obtain ⟨ar', har⟩ : ∃ q, q = loadA s (mNx x.t ((i : Int) + 1))  := ⟨_, rfl⟩
  obtain ⟨v, hv⟩ : ∃ v, v = ldW s.W (mNx x.t ((i : Int) + 1)) := ⟨_, rfl⟩
  have HX : Hid (mcsOut x.t s ((i : Int) + 1) (⟨11, u, b, z⟩ : Sp) = (ar', (⟨if v ≠ 0 then 14 else 12, v, b, z⟩ : Sp))) := Lib.hid (by rw [har, hv]; rfl)
  have HF := Lib.hid (fun W (k : KIs W a g 4 x s S) => next_mcs k ((i : Int) + 1) (by omega))
  have HO0 := (fun W (k : KIs W a g 4 x s S) => load_any k.ar (mNx x.t ((i : Int) + 1))  ho)
  rw [← har, ← hv] at HO0
  have HO := Lib.hid HO0
  have HC := Lib.hid (fun W s (S : List Sp) (y : Int) (k : KIs W a g 4 x s S) (hp : S[i]? = some (⟨11, y, b, z⟩ : Sp)) => k.mi.1)
  have HP := Lib.hid hp
  have HL := Lib.hid (show i < S.length by rw [h.n]; exact hin)
  have K1 := Lib.hid (h.below ((Below.refl _ w).drew))
  clear HO0 h hp har hv
  cases hc : (v != 0)
  all_goals
    go_enter Tryz.func405, Tryz.ntmps405
    go_wp2_with fail
    go_region_held3 (fun W => W.cell? ⟨x.l, 0, none⟩ = some (.pointer (some ⟨a, 0, none⟩)))
      (first | with_reducible exact HC.out _ _ _ _ K1.out HP.out | with_reducible exact HC.out _ _ _ _ K2.out HP.out | with_reducible exact HC3.out)
      (first
        | (go_at_call 400; go_loud (refine (HF.out _ K1.out).mono ?_); rintro en w2 ⟨rfl, rfl⟩)
        | (go_at_call 140; go_loud (refine (HO.out _ K1.out).mono ?_); rintro en w3 ⟨rfl, a3, t3⟩; have K2 := Lib.hid (K1.out.op t3 a3); have T2 := Lib.hid (((Turns.refl [a, g, x.q] w).drew).trans (turns_agq t3)); have K3 := Lib.hid (K2.out.put (p' := (⟨11, v, b, z⟩ : Sp)) HP.out (j := 1) (u := .int .i64 v) (by decide) rfl); have HC3 := Lib.hid (HC.out _ _ _ v K3.out (getS_set HP.out _)); have e1 := K2.out.sp.cell HP.out 1 _ rfl; have z1 := K2.out.sp.free (i * 4 + 1); have e5 := K2.out.sp.cell HP.out 0 _ rfl; simp only [Nat.add_zero] at e5; clear a3 t3))
  all_goals
    go_wp2
    go_ret
    rw [HX.out]
    first
      | (rw [if_pos (by simpa using hc)]; exact ⟨rfl, K3.out, T2.out.trans (turns_qag (turns_q _ _ _))⟩)
      | (rw [if_neg (by simpa using hc)]; exact ⟨rfl, K3.out, T2.out.trans (turns_qag (turns_q _ _ _))⟩)
set_option maxRecDepth 100000 in
set_option maxHeartbeats 2000000 in
theorem m_out13 (h : KIs w a g 4 x s S) (i : Nat) (hin : i < x.n) (u b z : Int) (hp : S[i]? = some (⟨13, u, b, z⟩ : Sp)) (ho : s.ops + 1 ≤ 1000000000000) :
    Calls Tryz.prog 405 #[.pointer (some ⟨x.l, 0, none⟩), .pointer (some ⟨x.q, i * 4, none⟩), .int .i64 ((i : Int) + 1)] w (MidK w a g x S i (⟨13, u, b, z⟩ : Sp) (mcsOut x.t s ((i : Int) + 1) (⟨13, u, b, z⟩ : Sp))) := by
  have hn := h.n32
  have e0 := h.sp.cell hp 0 _ rfl
  simp only [Nat.add_zero] at e0
  obtain ⟨ar', har⟩ : ∃ q, q = loadA s (mNx x.t ((i : Int) + 1))  := ⟨_, rfl⟩
  obtain ⟨v, hv⟩ : ∃ v, v = ldW s.W (mNx x.t ((i : Int) + 1)) := ⟨_, rfl⟩
  have HX : Hid (mcsOut x.t s ((i : Int) + 1) (⟨13, u, b, z⟩ : Sp) = (ar', (⟨if v ≠ 0 then 14 else 13, v, b, z⟩ : Sp))) := Lib.hid (by rw [har, hv]; rfl)
  have HF := Lib.hid (fun W (k : KIs W a g 4 x s S) => next_mcs k ((i : Int) + 1) (by omega))
  have HO0 := (fun W (k : KIs W a g 4 x s S) => load_any k.ar (mNx x.t ((i : Int) + 1))  ho)
  rw [← har, ← hv] at HO0
  have HO := Lib.hid HO0
  have HC := Lib.hid (fun W s (S : List Sp) (y : Int) (k : KIs W a g 4 x s S) (hp : S[i]? = some (⟨13, y, b, z⟩ : Sp)) => k.mi.1)
  have HP := Lib.hid hp
  have HL := Lib.hid (show i < S.length by rw [h.n]; exact hin)
  have K1 := Lib.hid (h.below ((Below.refl _ w).drew))
  clear HO0 h hp har hv
  cases hc : (v != 0)
  all_goals
    go_enter Tryz.func405, Tryz.ntmps405
    go_wp2_with fail
    go_region_held3 (fun W => W.cell? ⟨x.l, 0, none⟩ = some (.pointer (some ⟨a, 0, none⟩)))
      (first | with_reducible exact HC.out _ _ _ _ K1.out HP.out | with_reducible exact HC.out _ _ _ _ K2.out HP.out | with_reducible exact HC3.out)
      (first
        | (go_at_call 400; go_loud (refine (HF.out _ K1.out).mono ?_); rintro en w2 ⟨rfl, rfl⟩)
        | (go_at_call 140; go_loud (refine (HO.out _ K1.out).mono ?_); rintro en w3 ⟨rfl, a3, t3⟩; have K2 := Lib.hid (K1.out.op t3 a3); have T2 := Lib.hid (((Turns.refl [a, g, x.q] w).drew).trans (turns_agq t3)); have K3 := Lib.hid (K2.out.put (p' := (⟨13, v, b, z⟩ : Sp)) HP.out (j := 1) (u := .int .i64 v) (by decide) rfl); have HC3 := Lib.hid (HC.out _ _ _ v K3.out (getS_set HP.out _)); have e1 := K2.out.sp.cell HP.out 1 _ rfl; have z1 := K2.out.sp.free (i * 4 + 1); have e5 := K2.out.sp.cell HP.out 0 _ rfl; simp only [Nat.add_zero] at e5; clear a3 t3))
  all_goals
    go_wp2
    go_ret
    rw [HX.out]
    first
      | (rw [if_pos (by simpa using hc)]; exact ⟨rfl, K3.out, T2.out.trans (turns_qag (turns_q _ _ _))⟩)
      | (rw [if_neg (by simpa using hc)]; exact ⟨rfl, K3.out, T2.out.trans (turns_qag (turns_q _ _ _))⟩)
end
end Go.Proofs.YtagajjilccjplaaGreat
end
section
set_option linter.unusedVariables false
set_option linter.unusedSimpArgs false
/- Layer 18 (mcs): goes, Step, Alone. -/
namespace Go.Proofs.YtagajjilccjplaaGreat
open Go.RowKit

section
variable {w w' : World} {a g k : Nat} {x : Fx} {s : Ar} {S : List Sp}
/-- the bounds that a step asks -/
structure PreK (k : Nat) (x : Fx) (s : Ar) (S : List Sp) (B : Int) : Prop where
  ops : s.ops + 1 ≤ 1000000000000
  w : WdB B s
  p : ∀ p ∈ S, SpB k B p
  B0 : 1 ≤ B
  B1 : B ≤ 10000000000
  inr : inR s.W x.t = true
theorem PreK.sp {B : Int} (h : PreK k x s S B) {i : Nat} {p : Sp} (hp : S[i]? = some p) : SpB k B p := h.p p (List.mem_of_getElem? hp)
/-- where a slot of an mcs lock may be -/
def mcsPc (p : Sp) : Prop := (0 ≤ p.pc ∧ p.pc ≤ 5) ∨ (10 ≤ p.pc ∧ p.pc ≤ 14)
theorem midIn_mcs {B : Int} (h : KIs w a g 4 x s S) (C : PreK 4 x s S B) (i : Nat) (p : Sp) (hp : S[i]? = some p) (h0 : 0 < p.pc) (h5 : p.pc ≤ 5) :
    Calls Tryz.prog 404 #[.pointer (some ⟨x.l, 0, none⟩), .pointer (some ⟨x.q, i * 4, none⟩), .int .i64 ((i : Int) + 1)] w (MidK w a g x S i p (mcsIn x.t s ((i : Int) + 1) p)) := by
  have hi : i < x.n := by have := (List.getElem?_eq_some_iff.1 hp).1; rw [h.n] at this; exact this
  have hb := C.sp hp
  have ho := C.ops
  have hB := C.B1
  obtain ⟨pc, u, b, z⟩ := p
  have a0 := hb.a0
  have a1 := hb.a1
  simp only at h0 h5 a0 a1
  have : pc = 1 ∨ pc = 2 ∨ pc = 3 ∨ pc = 4 ∨ pc = 5 := by omega
  rcases this with rfl | rfl | rfl | rfl | rfl
  · exact m_in1 h i hi u b z hp ho
  · exact m_in2 h i hi u b z hp ho
  · exact m_in3 h i hi u b z hp ho
  · exact m_in4 h i hi u b z hp ho (by omega)
  · exact m_in5 h i hi u b z hp ho
theorem midOut_mcs {B : Int} (h : KIs w a g 4 x s S) (C : PreK 4 x s S B) (i : Nat) (p : Sp) (hp : S[i]? = some p) (h0 : 10 < p.pc) (h5 : p.pc ≤ 14) :
    Calls Tryz.prog 405 #[.pointer (some ⟨x.l, 0, none⟩), .pointer (some ⟨x.q, i * 4, none⟩), .int .i64 ((i : Int) + 1)] w (MidK w a g x S i p (mcsOut x.t s ((i : Int) + 1) p)) := by
  have hi : i < x.n := by have := (List.getElem?_eq_some_iff.1 hp).1; rw [h.n] at this; exact this
  have hb := C.sp hp
  have ho := C.ops
  have hB := C.B1
  obtain ⟨pc, u, b, z⟩ := p
  have a0 := hb.a0
  have a1 := hb.a1
  simp only at h0 h5 a0 a1
  have : pc = 11 ∨ pc = 12 ∨ pc = 13 ∨ pc = 14 := by omega
  rcases this with rfl | rfl | rfl | rfl
  · exact m_out11 h i hi u b z hp ho
  · exact m_out12 h i hi u b z hp ho
  · exact m_out13 h i hi u b z hp ho
  · exact m_out14 h i hi u b z hp ho (by omega)
def GoK (w : World) (a g : Nat) (x : Fx) (S : List Sp) (i : Nat) (to_ : Int) (r : Ar × Sp) (e : Ending) (w' : World) : Prop :=
  e = .returned (.bool (decide (r.2.pc = to_))) ∧ KIs w' a g 4 x r.1 (S.set i r.2) ∧ Turns [a, g, x.q] w w'
theorem ret_boolF {b c : Bool} (h : b = c) : Ending.returned (Value.bool b) = Ending.returned (Value.bool c) := by rw [h]
theorem mcsIn_pc (t : Int) (s : Ar) (y : Int) (p : Sp) : (mcsIn t s y p).2.pc ≠ 0 := by
  unfold mcsIn
  split
  · simp
  split
  · simp
  split
  · simp only; split <;> decide
  split
  · simp
  · simp only; split <;> decide
theorem mcsOut_pc (t : Int) (s : Ar) (y : Int) (p : Sp) : (mcsOut t s y p).2.pc ≠ 10 := by
  unfold mcsOut
  split
  · simp only; split <;> decide
  split
  · simp
  · simp only; repeat' split
    all_goals decide
theorem came_in_mcs (t m : Int) (s : Ar) (i : Int) {p : Sp} (h0 : 0 < p.pc) (h5 : p.pc ≤ 5) : decide ((mcsIn t s (i + 1) p).2.pc = 10) = cameK p (stepK 4 t m s i p).2 := by
  have e : stepK 4 t m s i p = mcsIn t s (i + 1) p := by
    show mcsK t s i p = _
    unfold mcsK
    rw [if_pos ⟨h0, by omega⟩]
  rw [e]
  have hn := mcsIn_pc t s (i + 1) p
  unfold cameK
  by_cases h : (mcsIn t s (i + 1) p).2.pc = 10
  · rw [decide_eq_true h, decide_eq_true ⟨.inl h, by omega, by omega⟩]
  · rw [decide_eq_false h, decide_eq_false (fun k => by rcases k.1 with k | k <;> contradiction)]
theorem came_out_mcs (t m : Int) (s : Ar) (i : Int) {p : Sp} (h0 : 10 < p.pc) (h5 : p.pc ≤ 14) : decide ((mcsOut t s (i + 1) p).2.pc = 0) = cameK p (stepK 4 t m s i p).2 := by
  have e : stepK 4 t m s i p = mcsOut t s (i + 1) p := by
    show mcsK t s i p = _
    unfold mcsK
    rw [if_neg (by omega), if_pos h0]
  rw [e]
  have hn := mcsOut_pc t s (i + 1) p
  unfold cameK
  by_cases h : (mcsOut t s (i + 1) p).2.pc = 0
  · rw [decide_eq_true h, decide_eq_true ⟨.inr h, by omega, by omega⟩]
  · rw [decide_eq_false h, decide_eq_false (fun k => by rcases k.1 with k | k <;> contradiction)]
set_option maxRecDepth 100000 in
set_option maxHeartbeats 1000000 in
theorem goesIn_mcs (h : KIs w a g 4 x s S) (i : Nat) (p : Sp) (hp : S[i]? = some p) (to_ : Int) (r : Ar × Sp)
    (hm : Calls Tryz.prog 404 #[.pointer (some ⟨x.l, 0, none⟩), .pointer (some ⟨x.q, i * 4, none⟩), .int .i64 ((i : Int) + 1)] w (MidK w a g x S i p r)) :
    Calls Tryz.prog 403 #[.pointer (some ⟨x.l, 0, none⟩), .int .i64 i, .int .i64 to_, .func (.func 404) #[.pointer (some ⟨x.l, 0, none⟩)] #[]] w (GoK w a g x S i to_ r) := by
  have hi : i < x.n := by have := (List.getElem?_eq_some_iff.1 hp).1; rw [h.n] at this; exact this
  have hn := h.n32
  have x7 : IntKind.i64.wrap ((i : Int) + 1) = (i : Int) + 1 := IntWalk.i64_in _ (by omega)
  have HM := Lib.hid hm
  have HP := Lib.hid hp
  have H := Lib.hid h
  clear h hm hp
  cases hc : (r.2.pc == to_)
  all_goals
    go_enter Tryz.func403, Tryz.ntmps403
    go_wp2_with (go_at_call 402; refine (spot_mcs H.out i hi).mono ?_; rintro e w' ⟨rfl, rfl⟩)
    go_wp2_with (go_at_call 404; refine HM.out.mono ?_; rintro e w2 ⟨rfl, k2, t2⟩; have K2 := Lib.hid (And.intro k2 t2); have K3 := Lib.hid (k2.put0 (p' := r.2) (getS_set HP.out _) (u := .int .i64 r.2.pc) rfl); have f0 := k2.sp.free (i * 4); have a0 := k2.sp.cell (getS_set HP.out _) 0 _ rfl; simp only [Nat.add_zero] at a0; clear k2 t2)
    go_ret
    have k3 := K3.out
    rw [setS_set] at k3
    refine ⟨?_, k3, K2.out.2.trans (turns_qag (turns_q _ _ _))⟩
    first
      | exact ret_boolF (decide_eq_true (by simpa using hc)).symm
      | exact ret_boolF (decide_eq_false (by simpa using hc)).symm
set_option maxRecDepth 100000 in
set_option maxHeartbeats 1000000 in
theorem goesOut_mcs (h : KIs w a g 4 x s S) (i : Nat) (p : Sp) (hp : S[i]? = some p) (to_ : Int) (r : Ar × Sp)
    (hm : Calls Tryz.prog 405 #[.pointer (some ⟨x.l, 0, none⟩), .pointer (some ⟨x.q, i * 4, none⟩), .int .i64 ((i : Int) + 1)] w (MidK w a g x S i p r)) :
    Calls Tryz.prog 403 #[.pointer (some ⟨x.l, 0, none⟩), .int .i64 i, .int .i64 to_, .func (.func 405) #[.pointer (some ⟨x.l, 0, none⟩)] #[]] w (GoK w a g x S i to_ r) := by
  have hi : i < x.n := by have := (List.getElem?_eq_some_iff.1 hp).1; rw [h.n] at this; exact this
  have hn := h.n32
  have x7 : IntKind.i64.wrap ((i : Int) + 1) = (i : Int) + 1 := IntWalk.i64_in _ (by omega)
  have HM := Lib.hid hm
  have HP := Lib.hid hp
  have H := Lib.hid h
  clear h hm hp
  cases hc : (r.2.pc == to_)
  all_goals
    go_enter Tryz.func403, Tryz.ntmps403
    go_wp2_with (go_at_call 402; refine (spot_mcs H.out i hi).mono ?_; rintro e w' ⟨rfl, rfl⟩)
    go_wp2_with (go_at_call 405; refine HM.out.mono ?_; rintro e w2 ⟨rfl, k2, t2⟩; have K2 := Lib.hid (And.intro k2 t2); have K3 := Lib.hid (k2.put0 (p' := r.2) (getS_set HP.out _) (u := .int .i64 r.2.pc) rfl); have f0 := k2.sp.free (i * 4); have a0 := k2.sp.cell (getS_set HP.out _) 0 _ rfl; simp only [Nat.add_zero] at a0; clear k2 t2)
    go_ret
    have k3 := K3.out
    rw [setS_set] at k3
    refine ⟨?_, k3, K2.out.2.trans (turns_qag (turns_q _ _ _))⟩
    first
      | exact ret_boolF (decide_eq_true (by simpa using hc)).symm
      | exact ret_boolF (decide_eq_false (by simpa using hc)).symm
set_option maxRecDepth 100000 in
set_option maxHeartbeats 4000000 in
theorem step_mcs {B : Int} (h : KIs w a g 4 x s S) (C : PreK 4 x s S B) (i : Nat) (p : Sp) (hp : S[i]? = some p) (hc : mcsPc p) :
    Calls Tryz.prog 399 #[.pointer (some ⟨x.l, 0, none⟩), .int .i64 i] w (StOk w a g 4 x s S i p) := by
  have hfield := field_pc
  have HS := Lib.hid (Spot_mcs h i p hp)
  have HI := Lib.hid (fun W (k : KIs W a g 4 x s S) (h0 : 0 < p.pc) (h5 : p.pc ≤ 5) => goesIn_mcs k i p hp 10 _ (midIn_mcs k C i p hp h0 h5))
  have HO := Lib.hid (fun W (k : KIs W a g 4 x s S) (h0 : 10 < p.pc) (h5 : p.pc ≤ 14) => goesOut_mcs k i p hp 0 _ (midOut_mcs k C i p hp h0 h5))
  have HP := Lib.hid hp
  have H := Lib.hid h
  clear h hp C
  obtain ⟨pc, u, b, z⟩ := p
  have hcs : pc = 0 ∨ pc = 10 ∨ (pc = 1 ∨ pc = 2 ∨ pc = 3 ∨ pc = 4 ∨ pc = 5) ∨ (pc = 11 ∨ pc = 12 ∨ pc = 13 ∨ pc = 14) := by unfold mcsPc at hc; simp only at hc; omega
  clear hc
  rcases hcs with hcs | hcs | hcs | hcs
  · subst hcs
    go_enter Tryz.func399, Tryz.ntmps399
    go_wp2_with (go_at_call 398; refine HS.out.mono ?_; unfold spotV; rintro e w1 ⟨rfl, b1⟩; have H1 := Lib.hid (And.intro (H.out.below b1) (Turns.of_below (S := [a, g, x.q]) b1)); clear b1)
    go_ret
    have k := H1.out.1
    rw [← setS_id HP.out] at k
    exact ⟨rfl, k, H1.out.2⟩
  · subst hcs
    go_enter Tryz.func399, Tryz.ntmps399
    go_wp2_with (go_at_call 398; refine HS.out.mono ?_; unfold spotV; rintro e w1 ⟨rfl, b1⟩; have H1 := Lib.hid (And.intro (H.out.below b1) (Turns.of_below (S := [a, g, x.q]) b1)); clear b1)
    go_ret
    have k := H1.out.1
    rw [← setS_id HP.out] at k
    exact ⟨rfl, k, H1.out.2⟩
  · rcases hcs with rfl | rfl | rfl | rfl | rfl
    all_goals
      go_enter Tryz.func399, Tryz.ntmps399
      go_wp2_with (go_at_call 398; refine HS.out.mono ?_; unfold spotV; rintro e w1 ⟨rfl, b1⟩; have H1 := Lib.hid (And.intro (H.out.below b1) (Turns.of_below (S := [a, g, x.q]) b1)); clear b1)
      go_wp2_with (go_at_call 403; refine (HI.out _ H1.out.1 (by simp) (by simp)).mono ?_; rintro e w2 ⟨rfl, k2, t2⟩; have H2 := Lib.hid (And.intro k2 t2); clear k2 t2)
      go_ret
      exact ⟨ret_boolF (came_in_mcs _ _ _ _ (by simp) (by simp)), H2.out.1, H1.out.2.trans H2.out.2⟩
  · rcases hcs with rfl | rfl | rfl | rfl
    all_goals
      go_enter Tryz.func399, Tryz.ntmps399
      go_wp2_with (go_at_call 398; refine HS.out.mono ?_; unfold spotV; rintro e w1 ⟨rfl, b1⟩; have H1 := Lib.hid (And.intro (H.out.below b1) (Turns.of_below (S := [a, g, x.q]) b1)); clear b1)
      go_wp2_with (go_at_call 403; refine (HO.out _ H1.out.1 (by simp) (by simp)).mono ?_; rintro e w2 ⟨rfl, k2, t2⟩; have H2 := Lib.hid (And.intro k2 t2); clear k2 t2)
      go_ret
      exact ⟨ret_boolF (came_out_mcs _ _ _ _ (by simp) (by simp)), H2.out.1, H1.out.2.trans H2.out.2⟩
set_option maxRecDepth 100000 in
set_option maxHeartbeats 2000000 in
theorem alone_mcs (h : KIs w a g 4 x s S) (i : Nat) (p : Sp) (hp : S[i]? = some p) (hpc : p.pc = 10) (ho : s.ops + 1 ≤ 1000000000000) :
    Calls Tryz.prog 394 #[.pointer (some ⟨x.l, 0, none⟩), .int .i64 i] w (AlOk w a g 4 x s S i p) := by
  have hi : i < x.n := by have := (List.getElem?_eq_some_iff.1 hp).1; rw [h.n] at this; exact this
  have hn := h.n32
  have hfield := field_pc
  obtain ⟨c, u, b, z⟩ := p
  simp only at hpc
  subst hpc
  obtain ⟨ar', har⟩ : ∃ q, q = loadA s (mNx x.t ((i : Int) + 1)) := ⟨_, rfl⟩
  obtain ⟨v, hv⟩ : ∃ v, v = ldW s.W (mNx x.t ((i : Int) + 1)) := ⟨_, rfl⟩
  have HX : Hid (aloneK 4 x.t s i ⟨10, u, b, z⟩ = (ar', decide (v = 0))) := Lib.hid (by rw [har, hv]; rfl)
  have x7 : IntKind.i64.wrap ((i : Int) + 1) = (i : Int) + 1 := IntWalk.i64_in _ (by omega)
  have HO0 := (fun W (k : KIs W a g 4 x s S) => load_any k.ar (mNx x.t ((i : Int) + 1)) ho)
  rw [← har, ← hv] at HO0
  have HO := Lib.hid HO0
  have HS := Lib.hid (fun W (k : KIs W a g 4 x s S) => Spot_mcs k i _ hp)
  have HF := Lib.hid (fun W (k : KIs W a g 4 x s S) => next_mcs k ((i : Int) + 1) (by omega))
  have HC : Hid (∀ W s (S' : List Sp), KIs W a g 4 x s S' → W.cell? ⟨x.l, 0, none⟩ = some (.pointer (some ⟨a, 0, none⟩))) := Lib.hid (fun W s S' k => k.mi.1)
  have HP := Lib.hid hp
  have K1 := Lib.hid (h.below ((Below.refl _ w).drew))
  clear HO0 h hp har hv
  cases hd : (v == 0)
  all_goals
    go_enter Tryz.func394, Tryz.ntmps394
    go_wp2_with fail
    first
    | (go_region_held3 (fun W => W.cell? ⟨x.l, 0, none⟩ = some (.pointer (some ⟨a, 0, none⟩)))
        (first | with_reducible exact HC.out _ _ _ K1.out | with_reducible exact HC.out _ _ _ K2.out | with_reducible exact HC.out _ _ _ K3.out)
        (first
          | (go_at_call 398; go_loud (refine (HS.out _ K1.out).mono ?_); unfold spotV; rintro en w2 ⟨rfl, b2⟩; have K2 := Lib.hid (K1.out.below b2); have T2 := Lib.hid (((Turns.refl [a, g, x.q] w).drew).trans (Turns.of_below b2)); clear b2)
          | (go_at_call 400; go_loud (refine (HF.out _ K2.out).mono ?_); rintro en w3 ⟨rfl, rfl⟩)
          | (go_at_call 140; go_loud (refine (HO.out _ K2.out).mono ?_); rintro en w3 ⟨rfl, a3, t3⟩; have K3 := Lib.hid (K2.out.op t3 a3); have T3 := Lib.hid (T2.out.trans (turns_agq t3)); clear a3 t3)))
    | fail "held"
  all_goals
    go_wp2
    go_ret
    rw [AlOk, HX.out]
    first
      | exact ⟨by rw [decide_eq_true (by simpa using hd)]; rfl, K3.out, T3.out⟩
      | exact ⟨by rw [decide_eq_false (by simpa using hd)]; rfl, K3.out, T3.out⟩
end
end Go.Proofs.YtagajjilccjplaaGreat
end
section
set_option linter.unusedVariables false
set_option linter.unusedSimpArgs false
/- Layer 15 (tas): Step; the lone lock's Alone. -/
namespace Go.Proofs.YtagajjilccjplaaGreat
open Go.RowKit

section
variable {w w' : World} {a g k : Nat} {x : Fx} {s : Ar} {S : List Sp}
theorem KIs.wi (h : KIs w a g 1 x s S) : w.cell? ⟨x.l, 0, none⟩ = some (.pointer (some ⟨a, 0, none⟩)) ∧ w.cell? ⟨x.l, 1, none⟩ = some (.int .i64 x.t) ∧ w.cell? ⟨x.l, 2, none⟩ = some (.int .i64 x.m) := ⟨h.lk.cell 0, h.lk.cell 1, h.lk.cell 2⟩
set_option maxRecDepth 100000 in
set_option maxHeartbeats 4000000 in
theorem step_tas1 (h : KIs w a g 1 x s S) (i : Nat) (u b z : Int) (hp : S[i]? = some (⟨1, u, b, z⟩ : Sp)) (ho : s.ops + 1 ≤ 1000000000000) (hu0 : 0 ≤ u) (hu1 : u ≤ 10000000000000) :
    Calls Tryz.prog 368 #[.pointer (some ⟨x.l, 0, none⟩), .int .i64 i] w (StOk w a g 1 x s S i ⟨1, u, b, z⟩) := by
  have hi : i < x.n := by have := (List.getElem?_eq_some_iff.1 hp).1; rw [h.n] at this; exact this
  have hn := h.n32
  have a0 := h.sp.cell hp 0 _ rfl
  simp only [Nat.add_zero] at a0
  obtain ⟨ar', har⟩ : ∃ q, q = casA s x.t 0 ((i : Int) + 1) := ⟨_, rfl⟩
  obtain ⟨v, hv⟩ : ∃ v, v = casB s x.t 0 := ⟨_, rfl⟩
  have HX : Hid (stepK 1 x.t x.m s i ⟨1, u, b, z⟩ = (ar', if v then ⟨10, u, b, z⟩ else ⟨2, min (2 * u) x.m, u, z⟩)) := Lib.hid (by rw [har, hv]; rfl)
  have HO0 := (fun W (k : KIs W a g 1 x s S) => cas_any k.ar x.t 0 ((i : Int) + 1) ho)
  rw [← har, ← hv] at HO0
  have e1 : IntKind.i64.wrap ((i : Int) + 1) = (i : Int) + 1 := IntWalk.i64_in _ (by omega)
  have e2 : IntKind.i64.wrap (2 * u) = 2 * u := IntWalk.i64_in _ (by omega)
  have HO := Lib.hid HO0
  have HP := Lib.hid hp
  have K0 := Lib.hid h
  have K1 := Lib.hid (h.below ((Below.refl _ w).drew))
  clear HO0 h hp har hv
  cases v
  · go_enter Tryz.func368, Tryz.ntmps368
    go_wp2_with (go_at_call 369; refine (spot_tas K0.out i hi).mono ?_; rintro e w' ⟨rfl, rfl⟩)
    go_region_held3 (fun W => W.cell? ⟨x.l, 0, none⟩ = some (.pointer (some ⟨a, 0, none⟩)) ∧ W.cell? ⟨x.l, 1, none⟩ = some (.int .i64 x.t) ∧ W.cell? ⟨x.l, 2, none⟩ = some (.int .i64 x.m))
      (first | with_reducible exact K1.out.wi | with_reducible exact K2.out.wi)
      (first
        | (go_at_call 230; go_loud (refine (HO.out _ K1.out).mono ?_); rintro en w3 ⟨rfl, a3, t3⟩; have K2 := Lib.hid (K1.out.op t3 a3); have T2 := Lib.hid (((Turns.refl [a, g, x.q] w).drew).trans (turns_agq t3)); clear a3 t3))
    have d0 := K2.out.sp.cell HP.out 0 _ rfl
    have d1 := K2.out.sp.cell HP.out 1 _ rfl
    have d2 := K2.out.sp.cell HP.out 2 _ rfl
    have z0 := K2.out.sp.free (i * 4)
    have z1 := K2.out.sp.free (i * 4 + 1)
    have z2 := K2.out.sp.free (i * 4 + 2)
    have d3 := K2.out.wi
    simp only [Nat.add_zero] at d0
    go_wp2_with fail
    obtain ⟨mu, hmu⟩ : ∃ r : Int, r = 2 * u := ⟨_, rfl⟩
    rw [← hmu] at HX e2
    have HMU := Lib.hid hmu
    clear hmu
    by_cases hm : (x.m : Int) < mu
    · have hmin : min mu (x.m : Int) = x.m := by omega
      rw [hmin] at HX
      have K4 := (((K2.out.put0 HP.out (p' := (⟨2, u, b, z⟩ : Sp)) (u := .int .i64 2) rfl).put (getS_set HP.out _) (j := 2) (p' := (⟨2, u, u, z⟩ : Sp)) (u := .int .i64 u) (by decide) rfl).put (getS_set (getS_set HP.out _) _) (j := 1) (p' := (⟨2, x.m, u, z⟩ : Sp)) (u := .int .i64 x.m) (by decide) rfl)
      rw [setS_set, setS_set] at K4
      have K5 := Lib.hid (K4.below (Below.refl _ _).drew)
      have T5 := Lib.hid (T2.out.trans (turns_qag (a := a) (g := g) ((((turns_q x.q (i * 4) (.int .i64 2)).trans (turns_q x.q (i * 4 + 2) (.int .i64 u))).trans (turns_q x.q (i * 4 + 1) (.int .i64 x.m))).drew)))
      clear K4 hmin
      go_region
      go_wp2
      all_goals
        go_ret
        rw [StOk, HX.out]
        first
          | exact ⟨rfl, K5.out, T5.out⟩
          | (exfalso; have e9 := HMU.out; omega)
          | (have e9 := HMU.out; subst e9; exact ⟨rfl, K5.out, T5.out⟩)
    · have hmin : min mu (x.m : Int) = mu := by omega
      rw [hmin] at HX
      have K4 := (((K2.out.put0 HP.out (p' := (⟨2, u, b, z⟩ : Sp)) (u := .int .i64 2) rfl).put (getS_set HP.out _) (j := 2) (p' := (⟨2, u, u, z⟩ : Sp)) (u := .int .i64 u) (by decide) rfl).put (getS_set (getS_set HP.out _) _) (j := 1) (p' := (⟨2, mu, u, z⟩ : Sp)) (u := .int .i64 mu) (by decide) rfl)
      rw [setS_set, setS_set] at K4
      have K5 := Lib.hid (K4.below (Below.refl _ _).drew)
      have T5 := Lib.hid (T2.out.trans (turns_qag (a := a) (g := g) ((((turns_q x.q (i * 4) (.int .i64 2)).trans (turns_q x.q (i * 4 + 2) (.int .i64 u))).trans (turns_q x.q (i * 4 + 1) (.int .i64 mu))).drew)))
      clear K4 hmin
      go_region
      go_wp2
      all_goals
        go_ret
        rw [StOk, HX.out]
        first
          | exact ⟨rfl, K5.out, T5.out⟩
          | (exfalso; have e9 := HMU.out; omega)
          | (have e9 := HMU.out; subst e9; exact ⟨rfl, K5.out, T5.out⟩)
  · go_enter Tryz.func368, Tryz.ntmps368
    go_wp2_with (go_at_call 369; refine (spot_tas K0.out i hi).mono ?_; rintro e w' ⟨rfl, rfl⟩)
    go_region_held3 (fun W => W.cell? ⟨x.l, 0, none⟩ = some (.pointer (some ⟨a, 0, none⟩)) ∧ W.cell? ⟨x.l, 1, none⟩ = some (.int .i64 x.t) ∧ W.cell? ⟨x.l, 2, none⟩ = some (.int .i64 x.m))
      (first | with_reducible exact K1.out.wi | with_reducible exact K2.out.wi)
      (first
        | (go_at_call 230; go_loud (refine (HO.out _ K1.out).mono ?_); rintro en w3 ⟨rfl, a3, t3⟩; have K2 := Lib.hid (K1.out.op t3 a3); have T2 := Lib.hid (((Turns.refl [a, g, x.q] w).drew).trans (turns_agq t3)); clear a3 t3))
    have d0 := K2.out.sp.cell HP.out 0 _ rfl
    have z0 := K2.out.sp.free (i * 4)
    simp only [Nat.add_zero] at d0
    have K4 := Lib.hid (K2.out.put0 HP.out (p' := (⟨10, u, b, z⟩ : Sp)) (u := .int .i64 10) rfl)
    go_wp2
    go_ret
    rw [StOk, HX.out]
    exact ⟨rfl, K4.out, T2.out.trans (turns_qag (turns_q _ _ _))⟩
set_option maxRecDepth 100000 in
set_option maxHeartbeats 2000000 in
theorem step_tas2 (h : KIs w a g 1 x s S) (i : Nat) (u b z : Int) (hp : S[i]? = some (⟨2, u, b, z⟩ : Sp)) (hb0 : -10000000000000 ≤ b) (hb1 : b ≤ 10000000000000) :
    Calls Tryz.prog 368 #[.pointer (some ⟨x.l, 0, none⟩), .int .i64 i] w (StOk w a g 1 x s S i ⟨2, u, b, z⟩) := by
  have hi : i < x.n := by have := (List.getElem?_eq_some_iff.1 hp).1; rw [h.n] at this; exact this
  have a0 := h.sp.cell hp 0 _ rfl
  have a2 := h.sp.cell hp 2 _ rfl
  have z0 := h.sp.free (i * 4)
  have z2 := h.sp.free (i * 4 + 2)
  simp only [Nat.add_zero] at a0
  obtain ⟨r, hr⟩ : ∃ r : Int, r = b - 1 := ⟨_, rfl⟩
  have HX : Hid (stepK 1 x.t x.m s i ⟨2, u, b, z⟩ = (s, ⟨if r = 0 then 1 else 2, u, r, z⟩)) := Lib.hid (by rw [hr]; rfl)
  have e1 : IntKind.i64.wrap (b - 1) = r := by rw [hr]; exact IntWalk.i64_in _ (by omega)
  have HP := Lib.hid hp
  have K0 := Lib.hid h
  have K1 := Lib.hid (h.put hp (p' := (⟨2, u, r, z⟩ : Sp)) (j := 2) (u := .int .i64 r) (by decide) rfl)
  have K2 := Lib.hid (K1.out.put0 (getS_set hp _) (p' := (⟨1, u, r, z⟩ : Sp)) (u := .int .i64 1) rfl)
  clear h hp hr
  cases hc : (r == 0)
  all_goals
    go_enter Tryz.func368, Tryz.ntmps368
    go_wp2_with (go_at_call 369; refine (spot_tas K0.out i hi).mono ?_; rintro e w' ⟨rfl, rfl⟩)
    go_ret
    rw [StOk, HX.out]
    first
      | (rw [if_pos (by simpa using hc)]
         refine ⟨rfl, ?_, turns_qag ((turns_q _ _ _).trans (turns_q _ _ _))⟩
         have k := K2.out
         rw [setS_set] at k
         exact k)
      | (rw [if_neg (by simpa using hc)]; exact ⟨rfl, K1.out, turns_qag (turns_q _ _ _)⟩)
set_option maxRecDepth 100000 in
set_option maxHeartbeats 2000000 in
theorem step_tas11 (h : KIs w a g 1 x s S) (i : Nat) (u b z : Int) (hp : S[i]? = some (⟨11, u, b, z⟩ : Sp)) (ho : s.ops + 1 ≤ 1000000000000) :
    Calls Tryz.prog 368 #[.pointer (some ⟨x.l, 0, none⟩), .int .i64 i] w (StOk w a g 1 x s S i ⟨11, u, b, z⟩) := by
  have hi : i < x.n := by have := (List.getElem?_eq_some_iff.1 hp).1; rw [h.n] at this; exact this
  have a0 := h.sp.cell hp 0 _ rfl
  simp only [Nat.add_zero] at a0
  obtain ⟨ar', har⟩ : ∃ q, q = storeA s x.t 0 := ⟨_, rfl⟩
  have HX : Hid (stepK 1 x.t x.m s i ⟨11, u, b, z⟩ = (ar', ⟨0, u, b, z⟩)) := Lib.hid (by rw [har]; rfl)
  have HO0 := (fun W (k : KIs W a g 1 x s S) => store_any k.ar x.t 0 ho)
  rw [← har] at HO0
  have HO := Lib.hid HO0
  have HP := Lib.hid hp
  have K0 := Lib.hid h
  have K1 := Lib.hid (h.below ((Below.refl _ w).drew))
  clear HO0 h hp har
  go_enter Tryz.func368, Tryz.ntmps368
  go_wp2_with (go_at_call 369; refine (spot_tas K0.out i hi).mono ?_; rintro e w' ⟨rfl, rfl⟩)
  go_region_held3 (fun W => W.cell? ⟨x.l, 0, none⟩ = some (.pointer (some ⟨a, 0, none⟩)) ∧ W.cell? ⟨x.l, 1, none⟩ = some (.int .i64 x.t) ∧ W.cell? ⟨x.l, 2, none⟩ = some (.int .i64 x.m))
    (first | with_reducible exact K1.out.wi | with_reducible exact K2.out.wi)
    (first
      | (go_at_call 144; go_loud (refine (HO.out _ K1.out).mono ?_); rintro en w3 ⟨rfl, a3, t3⟩; have K2 := Lib.hid (K1.out.op t3 a3); have T2 := Lib.hid (((Turns.refl [a, g, x.q] w).drew).trans (turns_agq t3)); clear a3 t3))
  all_goals
    have d0 := K2.out.sp.cell HP.out 0 _ rfl
    have z0 := K2.out.sp.free (i * 4)
    simp only [Nat.add_zero] at d0
    have K4 := Lib.hid (K2.out.put0 HP.out (p' := (⟨0, u, b, z⟩ : Sp)) (u := .int .i64 0) rfl)
    go_wp2
    go_ret
    rw [StOk, HX.out]
    exact ⟨rfl, K4.out, T2.out.trans (turns_qag (turns_q _ _ _))⟩
theorem step_tas0 (h : KIs w a g 1 x s S) (i : Nat) (p : Sp) (hp : S[i]? = some p) (h0 : p.pc = 0 ∨ p.pc = 10) :
    Calls Tryz.prog 368 #[.pointer (some ⟨x.l, 0, none⟩), .int .i64 i] w (StOk w a g 1 x s S i p) := by
  have hi : i < x.n := by have := (List.getElem?_eq_some_iff.1 hp).1; rw [h.n] at this; exact this
  obtain ⟨c, u, b, z⟩ := p
  have a0 := h.sp.cell hp 0 _ rfl
  simp only [Nat.add_zero] at a0
  have HP := Lib.hid hp
  have K0 := Lib.hid h
  clear h hp
  simp only at h0
  rcases h0 with rfl | rfl
  all_goals
    go_enter Tryz.func368, Tryz.ntmps368
    go_wp2_with (go_at_call 369; refine (spot_tas K0.out i hi).mono ?_; rintro e w' ⟨rfl, rfl⟩)
    go_ret
    refine ⟨rfl, ?_, Turns.refl _ _⟩
    have k := K0.out
    rw [← setS_id HP.out] at k
    exact k
theorem alone_lone (h : KIs w a g 1 x s S) (i : Nat) (p : Sp) (hp : S[i]? = some p) (hpc : p.pc = 10) :
    Calls Tryz.prog 370 #[.agg #[.pointer (some ⟨x.l, 0, none⟩)], .int .i64 i] w (AlOk w a g 1 x s S i p) := by
  have hfield := field_pc
  have b1 := (Below.refl w.heap.size w).alloc (Nat.le_refl _) (.cells #[.pointer (some ⟨x.l, 0, none⟩)] 265)
  have HS := Lib.hid (Spot_tas (h.below b1) i p hp)
  have HB := Lib.hid b1
  have K0 := Lib.hid h
  have HX : Hid (aloneK 1 x.t s i p = (s, true)) := Lib.hid (by unfold aloneK; rw [if_pos hpc]; rfl)
  obtain ⟨pc, u, b, z⟩ := p
  simp only at hpc
  subst hpc
  unfold spotV at HS
  clear h hp b1
  go_enter Tryz.func370, Tryz.ntmps370
  go_wp2_with fail
  refine HS.out.mono ?_
  rintro en w1 ⟨rfl, b2⟩
  have HB2 := Lib.hid (show Below w.heap.size w w1 from HB.out.trans (b2.mono HB.out.size))
  clear b2
  go_wp2
  go_ret
  rw [AlOk, HX.out]
  exact ⟨rfl, K0.out.below HB2.out, Turns.of_below HB2.out⟩
end
end Go.Proofs.YtagajjilccjplaaGreat
end
