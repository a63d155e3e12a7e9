/- Joined: Hl2, Hl3, Hl4, Hl5, Cw8. -/
import Derived.Laws.CopyOwn
import Derived.Laws.EntriesVeiled
import Derived.Test.YtkdaiomjbkpedaaGreatMgCnaU7
import Derived.Test.YtkdaiomjbkpedaaGreatMgCnaU9
import Derived.Test.YtkdaiomjbkpedaaGreatMgCnaU13
section
/- Layer 29 (hclh): stand. -/
namespace Go.Proofs.YtkdaiomjbkpedaaGreat
open Go.RowKit

section
variable {w w' : World} {l a g q b u lo hi : Nat} {dl : Int} {P T : List Int} {h : Hc}
def MidOk (w : World) (l a g q b u lo hi : Nat) (dl : Int) (P T : List Int) (h : Hc) (i : Nat) (p : Sp) (x : Ar × List Int × Sp) (e : Ending) (w' : World) : Prop :=
  e = .returned (.int .i64 x.2.2.pc) ∧ HcIs w' l a g q b u lo hi dl P T ⟨x.1, x.2.1, h.S.set i { x.2.2 with pc := p.pc }⟩ ∧ Turns [a, g, q, u] w w'
theorem HcIs.op (k : HcIs w l a g q b u lo hi dl P T h) {ar' : Ar} (t : Turns [a, g] w w') (h1 : ArIs w' a g ar') : HcIs w' l a g q b u lo hi dl P T ⟨ar', h.D, h.S⟩ := by
  have hnd := k.nd
  simp at hnd
  exact k.next (t.mono (by simp)) h1 (k.sp.turns t (by simp; omega)) (k.tu.turns t (by simp; omega)) k.sl
theorem HcIs.putS (k : HcIs w l a g q b u lo hi dl P T h) {i : Nat} {p p' : Sp} (hp : h.S[i]? = some p) {j : Nat} {v : Value} (hj : j < 4) (he : (encP4 p).set j v = encP4 p') : HcIs (w.setCell ⟨q, i * 4 + j, none⟩ v) l a g q b u lo hi dl P T ⟨h.ar, h.D, h.S.set i p'⟩ :=
  k.spot (k.sp.put hp hj he) (by simp [k.sl]) ((Turns.refl _ _).setCell (.inl (by simp)) _)
theorem turns_q {w : World} {a g q u : Nat} (p : Addr) (v : Value) (hp : p.block = q) : Turns [a, g, q, u] w (w.setCell p v) := (Turns.refl _ _).setCell (.inl (by simp [hp])) _
set_option maxRecDepth 100000 in
set_option maxHeartbeats 2000000 in
theorem standH (k : HcIs w l a g q b u lo hi dl P T h) (i : Nat) (hin : i < T.length) (p : Sp) (hp : h.S[i]? = some p) (ho : h.ar.ops + 1 ≤ 1000000000000) (hd : 0 ≤ dv h.D i ∧ dv h.D i < 1000000000) (hpc : p.pc = 1) :
    Calls Tryz.prog 76 #[.pointer (some ⟨l, 0, none⟩), .int .i64 i] w (MidOk w l a g q b u lo hi dl P T h i p (stepHp (leavesL P).length T.length dl h (nodeN P T i) i p)) := by
  obtain ⟨_, HN, _⟩ := k.n32
  have hi2 : (i : Int) < T.length := by omega
  have c5 := k.c5
  obtain ⟨v, hv⟩ : ∃ v, v = ldW h.ar.W (2 + (nodeN P T i : Int)) := ⟨_, rfl⟩
  obtain ⟨ar', har⟩ : ∃ s, s = swapA h.ar (2 + (nodeN P T i : Int)) (tokH i (dv h.D i + 1)) := ⟨_, rfl⟩
  have HX : Hid (stepHp (leavesL P).length T.length dl h (nodeN P T i) i p = (ar', h.D, if v ≠ 0 then { p with a := v, pc := 5 } else if 0 < dl then { p with a := v, b := dl, pc := 2 } else { p with a := v, b := 0, pc := 3 })) := Lib.hid (by
    unfold stepHp
    rw [if_pos hpc, ← hv, ← har])
  have HL := Lib.hid (fun W (k : HcIs W l a g q b u lo hi dl P T h) => localH k i hin)
  have HNx := Lib.hid (fun W (k : HcIs W l a g q b u lo hi dl P T h) => nextU k.tu i hin hd)
  have HSw0 := (fun W (k : HcIs W l a g q b u lo hi dl P T h) => swap_any k.ar (2 + (nodeN P T i : Int)) (tokH i (dv h.D i + 1)) ho)
  rw [← hv, ← har] at HSw0
  have HSw := Lib.hid HSw0
  have HC := Lib.hid (fun W (h : Hc) (k : HcIs W l a g q b u lo hi dl P T h) => And.intro k.c0 (And.intro k.c3 k.c4))
  have K1 := Lib.hid (k.below ((Below.refl _ w).drew))
  have HP := Lib.hid (And.intro hp hpc)
  clear HSw0 k hp hpc hd hv har
  by_cases hv0 : v = 0
  · have t0 : (v != 0) = false := by simpa using hv0
    have HV := Lib.hid hv0
    clear hv0
    by_cases hdl : 0 < dl
    · have HD := Lib.hid hdl
      go_enter Tryz.func76, Tryz.ntmps76
      go_wp2_with fail
      go_region_held3 (fun W => W.cell? ⟨l, 0, none⟩ = some (.pointer (some ⟨a, 0, none⟩)) ∧ W.cell? ⟨l, 3, none⟩ = some (.pointer (some ⟨u, 0, none⟩)) ∧ W.cell? ⟨l, 4, none⟩ = some (.int .i64 dl))
        (first | with_reducible exact HC.out _ _ K1.out | with_reducible exact HC.out _ _ K2.out | with_reducible exact HC.out _ _ K3.out | with_reducible exact HC.out _ _ K4.out | with_reducible exact HC.out _ _ K5.out)
        (first
          | (go_at_call 117; go_loud (refine (HL.out _ K1.out).mono ?_); rintro en w2 ⟨rfl, q2⟩; have K2 := Lib.hid (K1.out.below (Qt.below q2 _)); have T2 := Lib.hid (((Turns.refl [a, g, q, u] w).drew).trans (Turns.of_qt q2)); clear q2)
          | (go_at_call 118; go_loud (refine (HNx.out _ K2.out).mono ?_); rintro en w3 ⟨rfl, b3⟩; have K3 := Lib.hid (K2.out.below b3); have T3 := Lib.hid (T2.out.trans (Turns.of_below b3)); clear b3)
          | (go_at_call 92; go_loud (refine (HSw.out _ K3.out).mono ?_); rintro en w4 ⟨rfl, a4, t4⟩; have K4 := Lib.hid (K3.out.op t4 a4); have T4 := Lib.hid (T3.out.trans (t4.mono (T := [a, g, q, u]) (by simp))); have K5 := Lib.hid (K4.out.putS (p' := { p with a := v }) HP.out.1 (j := 1) (v := .int .i64 v) (by decide) rfl); have e1 := K4.out.sp.cell HP.out.1 1 _ rfl; have z1 := K4.out.sp.free (i * 4 + 1); clear a4 t4))
      all_goals
        have c4 := (HC.out _ _ K5.out).2.2
        have e2 := K5.out.sp.cell (i := i) (p := { p with a := v }) (by simp [K4.out.sl, hin]) 2 _ rfl
        have z2 := K5.out.sp.free (i * 4 + 2)
        have K6 := K5.out.putS (i := i) (p := { p with a := v }) (p' := { p with a := v, b := dl }) (by simp [K4.out.sl, hin]) (j := 2) (v := .int .i64 dl) (by decide) rfl
        simp only [List.set_set] at K6
        have K6H := Lib.hid K6
        clear K6
        go_wp2
        go_ret
        rw [HX.out, if_neg (fun h => h HV.out), if_pos HD.out]
        exact ⟨rfl, by rw [show ({ ({ p with a := v, b := dl, pc := 2 } : Sp) with pc := p.pc } : Sp) = { p with a := v, b := dl } from rfl]; exact K6H.out, (T4.out.trans (turns_q ⟨q, i * 4 + 1, none⟩ _ rfl)).trans (turns_q ⟨q, i * 4 + 2, none⟩ _ rfl)⟩
    · have HD := Lib.hid hdl
      go_enter Tryz.func76, Tryz.ntmps76
      go_wp2_with fail
      go_region_held3 (fun W => W.cell? ⟨l, 0, none⟩ = some (.pointer (some ⟨a, 0, none⟩)) ∧ W.cell? ⟨l, 3, none⟩ = some (.pointer (some ⟨u, 0, none⟩)) ∧ W.cell? ⟨l, 4, none⟩ = some (.int .i64 dl))
        (first | with_reducible exact HC.out _ _ K1.out | with_reducible exact HC.out _ _ K2.out | with_reducible exact HC.out _ _ K3.out | with_reducible exact HC.out _ _ K4.out | with_reducible exact HC.out _ _ K5.out)
        (first
          | (go_at_call 117; go_loud (refine (HL.out _ K1.out).mono ?_); rintro en w2 ⟨rfl, q2⟩; have K2 := Lib.hid (K1.out.below (Qt.below q2 _)); have T2 := Lib.hid (((Turns.refl [a, g, q, u] w).drew).trans (Turns.of_qt q2)); clear q2)
          | (go_at_call 118; go_loud (refine (HNx.out _ K2.out).mono ?_); rintro en w3 ⟨rfl, b3⟩; have K3 := Lib.hid (K2.out.below b3); have T3 := Lib.hid (T2.out.trans (Turns.of_below b3)); clear b3)
          | (go_at_call 92; go_loud (refine (HSw.out _ K3.out).mono ?_); rintro en w4 ⟨rfl, a4, t4⟩; have K4 := Lib.hid (K3.out.op t4 a4); have T4 := Lib.hid (T3.out.trans (t4.mono (T := [a, g, q, u]) (by simp))); have K5 := Lib.hid (K4.out.putS (p' := { p with a := v }) HP.out.1 (j := 1) (v := .int .i64 v) (by decide) rfl); have e1 := K4.out.sp.cell HP.out.1 1 _ rfl; have z1 := K4.out.sp.free (i * 4 + 1); clear a4 t4))
      all_goals
        have c4 := (HC.out _ _ K5.out).2.2
        have e2 := K5.out.sp.cell (i := i) (p := { p with a := v }) (by simp [K4.out.sl, hin]) 2 _ rfl
        have z2 := K5.out.sp.free (i * 4 + 2)
        have K6 := K5.out.putS (i := i) (p := { p with a := v }) (p' := { p with a := v, b := 0 }) (by simp [K4.out.sl, hin]) (j := 2) (v := .int .i64 0) (by decide) rfl
        simp only [List.set_set] at K6
        have K6H := Lib.hid K6
        clear K6
        go_wp2
        go_ret
        rw [HX.out, if_neg (fun h => h HV.out), if_neg (show ¬ 0 < dl by have := HD.out; omega)]
        exact ⟨rfl, by rw [show ({ ({ p with a := v, b := 0, pc := 3 } : Sp) with pc := p.pc } : Sp) = { p with a := v, b := 0 } from rfl]; exact K6H.out, (T4.out.trans (turns_q ⟨q, i * 4 + 1, none⟩ _ rfl)).trans (turns_q ⟨q, i * 4 + 2, none⟩ _ rfl)⟩
  · have t0 : (v != 0) = true := by simpa using hv0
    have HV := Lib.hid hv0
    clear hv0
    go_enter Tryz.func76, Tryz.ntmps76
    go_wp2_with fail
    go_region_held3 (fun W => W.cell? ⟨l, 0, none⟩ = some (.pointer (some ⟨a, 0, none⟩)) ∧ W.cell? ⟨l, 3, none⟩ = some (.pointer (some ⟨u, 0, none⟩)) ∧ W.cell? ⟨l, 4, none⟩ = some (.int .i64 dl))
      (first | with_reducible exact HC.out _ _ K1.out | with_reducible exact HC.out _ _ K2.out | with_reducible exact HC.out _ _ K3.out | with_reducible exact HC.out _ _ K4.out | with_reducible exact HC.out _ _ K5.out)
      (first
        | (go_at_call 117; go_loud (refine (HL.out _ K1.out).mono ?_); rintro en w2 ⟨rfl, q2⟩; have K2 := Lib.hid (K1.out.below (Qt.below q2 _)); have T2 := Lib.hid (((Turns.refl [a, g, q, u] w).drew).trans (Turns.of_qt q2)); clear q2)
        | (go_at_call 118; go_loud (refine (HNx.out _ K2.out).mono ?_); rintro en w3 ⟨rfl, b3⟩; have K3 := Lib.hid (K2.out.below b3); have T3 := Lib.hid (T2.out.trans (Turns.of_below b3)); clear b3)
        | (go_at_call 92; go_loud (refine (HSw.out _ K3.out).mono ?_); rintro en w4 ⟨rfl, a4, t4⟩; have K4 := Lib.hid (K3.out.op t4 a4); have T4 := Lib.hid (T3.out.trans (t4.mono (T := [a, g, q, u]) (by simp))); have K5 := Lib.hid (K4.out.putS (p' := { p with a := v }) HP.out.1 (j := 1) (v := .int .i64 v) (by decide) rfl); have e1 := K4.out.sp.cell HP.out.1 1 _ rfl; have z1 := K4.out.sp.free (i * 4 + 1); clear a4 t4))
    all_goals
      go_wp2
      go_ret
      rw [HX.out, if_pos HV.out]
      exact ⟨rfl, by rw [show ({ ({ p with a := v, pc := 5 } : Sp) with pc := p.pc } : Sp) = { p with a := v } from rfl]; exact K5.out, T4.out.trans (turns_q ⟨q, i * 4 + 1, none⟩ _ rfl)⟩
end
end Go.Proofs.YtkdaiomjbkpedaaGreat
end
section
/- Layer 29 (hclh): wait, cut, splice, look, free. -/
namespace Go.Proofs.YtkdaiomjbkpedaaGreat
open Go.RowKit

section
variable {w w' : World} {l a g q b u lo hi : Nat} {dl : Int} {P T : List Int} {h : Hc}
theorem set_same {S : List Sp} {i : Nat} {p : Sp} (hp : S[i]? = some p) : S.set i p = S := by
  apply List.ext_getElem?
  intro j
  rw [List.getElem?_set]
  by_cases e : i = j
  · subst e
    have := (List.getElem?_eq_some_iff.1 hp).1
    rw [if_pos rfl, if_pos this, hp]
  · rw [if_neg e]
set_option maxRecDepth 100000 in
set_option maxHeartbeats 1000000 in
theorem waitH (k : HcIs w l a g q b u lo hi dl P T h) (i : Nat) (hin : i < T.length) (p : Sp) (hp : h.S[i]? = some p) (hb : 1 ≤ p.b ∧ p.b ≤ 100000) (hpc : p.pc = 2) :
    Calls Tryz.prog 77 #[.pointer (some ⟨l, 0, none⟩), .int .i64 i] w (MidOk w l a g q b u lo hi dl P T h i p (stepHp (leavesL P).length T.length dl h (nodeN P T i) i p)) := by
  obtain ⟨_, HN, _⟩ := k.n32
  have hi2 : (i : Int) < T.length := by omega
  have c5 := k.c5
  have e2 := k.sp.cell hp 2 _ rfl
  have z2 := k.sp.free (i * 4 + 2)
  obtain ⟨hb1, hb2⟩ := hb
  have HX : Hid (stepHp (leavesL P).length T.length dl h (nodeN P T i) i p = (h.ar, h.D, { p with b := p.b - 1, pc := if 0 < p.b - 1 then 2 else 3 })) := Lib.hid (by
    unfold stepHp
    rw [if_neg (by omega), if_pos hpc])
  have K1 := k.putS (p' := { p with b := p.b - 1 }) hp (j := 2) (v := .int .i64 (p.b - 1)) (by decide) rfl
  have KH := Lib.hid K1
  have hql := k.sp.lt
  clear k hp hpc K1
  by_cases hg : 0 < p.b - 1
  · have HG := Lib.hid hg
    go_enter Tryz.func77, Tryz.ntmps77
    go_wp2
    go_ret
    rw [HX.out]
    exact ⟨by rw [if_pos HG.out]; rfl, KH.out, turns_q ⟨q, i * 4 + 2, none⟩ _ rfl⟩
  · have HG := Lib.hid hg
    go_enter Tryz.func77, Tryz.ntmps77
    go_wp2
    go_ret
    rw [HX.out]
    exact ⟨by rw [if_neg (by have := HG.out; omega)]; rfl, KH.out, turns_q ⟨q, i * 4 + 2, none⟩ _ rfl⟩
set_option maxRecDepth 100000 in
set_option maxHeartbeats 2000000 in
theorem cutH (k : HcIs w l a g q b u lo hi dl P T h) (i : Nat) (hin : i < T.length) (p : Sp) (hp : h.S[i]? = some p) (ho : h.ar.ops + 1 ≤ 1000000000000) (hpc : p.pc = 3) :
    Calls Tryz.prog 78 #[.pointer (some ⟨l, 0, none⟩), .int .i64 i] w (MidOk w l a g q b u lo hi dl P T h i p (stepHp (leavesL P).length T.length dl h (nodeN P T i) i p)) := by
  obtain ⟨_, HN, _⟩ := k.n32
  have hi2 : (i : Int) < T.length := by omega
  obtain ⟨v, hv⟩ : ∃ v, v = ldW h.ar.W (2 + (nodeN P T i : Int)) := ⟨_, rfl⟩
  obtain ⟨ar', har⟩ : ∃ s, s = swapA h.ar (2 + (nodeN P T i : Int)) 0 := ⟨_, rfl⟩
  have HX : Hid (stepHp (leavesL P).length T.length dl h (nodeN P T i) i p = (ar', h.D, { p with c := v, pc := 4 })) := Lib.hid (by
    unfold stepHp
    rw [if_neg (by omega), if_neg (by omega), if_pos hpc, ← hv, ← har])
  have HL := Lib.hid (fun W (k : HcIs W l a g q b u lo hi dl P T h) => localH k i hin)
  have HSw0 := (fun W (k : HcIs W l a g q b u lo hi dl P T h) => swap_any k.ar (2 + (nodeN P T i : Int)) 0 ho)
  rw [← hv, ← har] at HSw0
  have HSw := Lib.hid HSw0
  have HC := Lib.hid (fun W (h : Hc) (k : HcIs W l a g q b u lo hi dl P T h) => And.intro k.c0 k.c5)
  have K1 := Lib.hid (k.below ((Below.refl _ w).drew))
  have HP := Lib.hid (And.intro hp hpc)
  clear HSw0 k hp hpc hv har
  go_enter Tryz.func78, Tryz.ntmps78
  go_wp2_with fail
  go_region_held3 (fun W => W.cell? ⟨l, 0, none⟩ = some (.pointer (some ⟨a, 0, none⟩)) ∧ W.cell? ⟨l, 5, none⟩ = some (.slice (some ⟨q, 0, none⟩) T.length T.length))
    (first | with_reducible exact HC.out _ _ K1.out | with_reducible exact HC.out _ _ K2.out | with_reducible exact HC.out _ _ K4.out | with_reducible exact HC.out _ _ K5.out)
    (first
      | (go_at_call 117; go_loud (refine (HL.out _ K1.out).mono ?_); rintro en w2 ⟨rfl, q2⟩; have K2 := Lib.hid (K1.out.below (Qt.below q2 _)); have T2 := Lib.hid (((Turns.refl [a, g, q, u] w).drew).trans (Turns.of_qt q2)); clear q2)
      | (go_at_call 92; go_loud (refine (HSw.out _ K2.out).mono ?_); rintro en w4 ⟨rfl, a4, t4⟩; have K4 := Lib.hid (K2.out.op t4 a4); have T4 := Lib.hid (T2.out.trans (t4.mono (T := [a, g, q, u]) (by simp))); have K5 := Lib.hid (K4.out.putS (p' := { p with c := v }) HP.out.1 (j := 3) (v := .int .i64 v) (by decide) rfl); have e1 := K4.out.sp.cell HP.out.1 3 _ rfl; have z1 := K4.out.sp.free (i * 4 + 3); clear a4 t4))
  all_goals
    go_wp2
    go_ret
    rw [HX.out]
    exact ⟨rfl, K5.out, T4.out.trans (turns_q ⟨q, i * 4 + 3, none⟩ _ rfl)⟩
set_option maxRecDepth 100000 in
set_option maxHeartbeats 2000000 in
theorem spliceH (k : HcIs w l a g q b u lo hi dl P T h) (i : Nat) (hin : i < T.length) (p : Sp) (hp : h.S[i]? = some p) (ho : h.ar.ops + 1 ≤ 1000000000000) (hpc : p.pc = 4) :
    Calls Tryz.prog 79 #[.pointer (some ⟨l, 0, none⟩), .int .i64 i] w (MidOk w l a g q b u lo hi dl P T h i p (stepHp (leavesL P).length T.length dl h (nodeN P T i) i p)) := by
  obtain ⟨_, HN, _⟩ := k.n32
  have hi2 : (i : Int) < T.length := by omega
  have c5 := k.c5
  obtain ⟨v, hv⟩ : ∃ v, v = ldW h.ar.W 1 := ⟨_, rfl⟩
  obtain ⟨ar', har⟩ : ∃ s, s = swapA h.ar 1 p.c := ⟨_, rfl⟩
  have HX : Hid (stepHp (leavesL P).length T.length dl h (nodeN P T i) i p = (ar', h.D, { p with a := v, pc := if v = 0 then 10 else 5 })) := Lib.hid (by
    unfold stepHp
    rw [if_neg (by omega), if_neg (by omega), if_neg (by omega), if_pos hpc, ← hv, ← har])
  have HSw0 := (fun W (k : HcIs W l a g q b u lo hi dl P T h) => swap_any k.ar 1 p.c ho)
  rw [← hv, ← har] at HSw0
  have HSw := Lib.hid HSw0
  have HC := Lib.hid (fun W (h : Hc) (k : HcIs W l a g q b u lo hi dl P T h) (p' : Sp) (hp : h.S[i]? = some p') (hc : p'.c = p.c) => And.intro k.c0 (And.intro k.c2 (show W.cell? ⟨q, i * 4 + 3, none⟩ = some (.int .i64 p.c) by rw [← hc]; exact k.sp.cell hp 3 _ rfl)))
  have K1 := Lib.hid (k.below ((Below.refl _ w).drew))
  have HP := Lib.hid (And.intro hp hpc)
  have hSl := k.sl
  have HSl := Lib.hid hSl
  clear HSw0 k hp hpc hv har hSl
  by_cases hv0 : v = 0
  all_goals
    have t0 : (v == 0) = decide (v = 0) := by by_cases h : v = 0 <;> simp [h]
    first
      | rw [decide_eq_true hv0] at t0
      | rw [decide_eq_false hv0] at t0
    have HV := Lib.hid hv0
    clear hv0
    go_enter Tryz.func79, Tryz.ntmps79
    go_wp2_with fail
    go_region_held3 (fun W => W.cell? ⟨l, 0, none⟩ = some (.pointer (some ⟨a, 0, none⟩)) ∧ W.cell? ⟨l, 2, none⟩ = some (.int .i64 1) ∧ W.cell? ⟨q, i * 4 + 3, none⟩ = some (.int .i64 p.c))
      (first | with_reducible exact HC.out _ _ K1.out p HP.out.1 rfl | with_reducible exact HC.out _ _ K4.out p HP.out.1 rfl | with_reducible exact HC5.out)
      (first
        | (go_at_call 92; go_loud (refine (HSw.out _ K1.out).mono ?_); rintro en w4 ⟨rfl, a4, t4⟩; have K4 := Lib.hid (K1.out.op t4 a4); have T4 := Lib.hid (((Turns.refl [a, g, q, u] w).drew).trans (t4.mono (T := [a, g, q, u]) (by simp))); have K5 := Lib.hid (K4.out.putS (p' := { p with a := v }) HP.out.1 (j := 1) (v := .int .i64 v) (by decide) rfl); have HC5 := Lib.hid (HC.out _ _ K5.out { p with a := v } (by simp [HSl.out, hin]) rfl); have e1 := K4.out.sp.cell HP.out.1 1 _ rfl; have z1 := K4.out.sp.free (i * 4 + 1); clear a4 t4))
    all_goals
      go_wp2
      go_ret
      rw [HX.out]
      first
        | exact ⟨by rw [if_pos HV.out]; rfl, K5.out, T4.out.trans (turns_q ⟨q, i * 4 + 1, none⟩ _ rfl)⟩
        | exact ⟨by rw [if_neg HV.out]; rfl, K5.out, T4.out.trans (turns_q ⟨q, i * 4 + 1, none⟩ _ rfl)⟩
set_option maxRecDepth 100000 in
set_option maxHeartbeats 2000000 in
theorem lookH (k : HcIs w l a g q b u lo hi dl P T h) (i : Nat) (hin : i < T.length) (p : Sp) (hp : h.S[i]? = some p) (ho : h.ar.ops + 1 ≤ 1000000000000) (ha : 0 ≤ p.a ∧ p.a < 9223372036854775808) (hpc : p.pc = 5) :
    Calls Tryz.prog 80 #[.pointer (some ⟨l, 0, none⟩), .int .i64 i] w (MidOk w l a g q b u lo hi dl P T h i p (stepHp (leavesL P).length T.length dl h (nodeN P T i) i p)) := by
  obtain ⟨_, HN, _⟩ := k.n32
  have hnd := k.nd
  have hua : u ≠ a := by simp at hnd; omega
  have hug : u ≠ g := by simp at hnd; omega
  have hi2 : (i : Int) < T.length := by omega
  have c3 := k.c3
  have c5 := k.c5
  have e1 := k.sp.cell hp 1 _ rfl
  obtain ⟨bb, hbb⟩ : ∃ x, x = isB h.ar.W (2 + ((leavesL P).length : Int)) T.length p.a := ⟨_, rfl⟩
  have HX : Hid (stepHp (leavesL P).length T.length dl h (nodeN P T i) i p = (isA h.ar (2 + ((leavesL P).length : Int)) T.length p.a, h.D, { p with pc := if bb then 10 else 5 })) := Lib.hid (by
    unfold stepHp
    rw [if_neg (by omega), if_neg (by omega), if_neg (by omega), if_neg (by omega), if_pos hpc, ← hbb])
  have K1 := k.below ((Below.refl _ w).drew)
  have HI0 := isU K1.ar K1.tu hua hug p.a ha.1 ha.2 ho
  rw [← hbb] at HI0
  have HI := Lib.hid HI0
  have K1H := Lib.hid K1
  have HP := Lib.hid (And.intro hp hpc)
  clear k hp hpc HI0 K1 hnd hua hug hbb ha
  go_enter Tryz.func80, Tryz.ntmps80
  go_wp2_with fail
  refine wp_region_still_tail 12 (by kernel_rfl) (by kernel_rfl) ?_
  simp only [List.take_succ_cons, List.take_zero, List.drop_succ_cons, List.drop_zero]
  change wpStill _ _ (World.drew _) _ _ _
  repeat still_step
  refine wpStill_nil ?_
  change wpList _ _ _ _ _ (World.drew w)
  go_wp2_with fail
  refine HI.out.mono ?_
  rintro en w2 ⟨rfl, a2, t2⟩
  have K2 := Lib.hid (K1H.out.op t2 a2)
  have T2 := Lib.hid (((Turns.refl [a, g, q, u] w).drew).trans (t2.mono (T := [a, g, q, u]) (by simp)))
  clear a2 t2
  cases bb
  all_goals
    go_wp2
    go_ret
    rw [HX.out]
    refine ⟨rfl, ?_, T2.out⟩
    have e : h.S.set i ({ ({ p with pc := 0 } : Sp) with pc := p.pc } : Sp) = h.S := set_same HP.out.1
    rw [show ∀ x : Int, ({ ({ p with pc := x } : Sp) with pc := p.pc } : Sp) = p from fun _ => rfl, set_same HP.out.1]
    exact K2.out
set_option maxHeartbeats 1000000 in
theorem freeH (k : HcIs w l a g q b u lo hi dl P T h) (i : Nat) (hin : i < T.length) (p : Sp) (hp : h.S[i]? = some p) (ho : h.ar.ops + 1 ≤ 1000000000000) (hd : 0 ≤ dv h.D i ∧ dv h.D i < 1000000000) (hpc : p.pc = 11) :
    Calls Tryz.prog 81 #[.pointer (some ⟨l, 0, none⟩), .int .i64 i] w (MidOk w l a g q b u lo hi dl P T h i p (stepHp (leavesL P).length T.length dl h (nodeN P T i) i p)) := by
  have hnd := k.nd
  have hua : u ≠ a := by simp at hnd; omega
  have hug : u ≠ g := by simp at hnd; omega
  have hqd : q ∉ [a, g, u] := by simp at hnd ⊢; omega
  have c3 := k.c3
  have HX : Hid (stepHp (leavesL P).length T.length dl h (nodeN P T i) i p = (addA h.ar (2 + ((leavesL P).length : Int) + i) 1, h.D.set i (dv h.D i + 1), { p with pc := 0 })) := Lib.hid (by
    unfold stepHp
    rw [if_neg (by omega), if_neg (by omega), if_neg (by omega), if_neg (by omega), if_neg (by omega)])
  have HI := Lib.hid (doneU k.ar k.tu hua hug i hin hd ho)
  have KH := Lib.hid (And.intro k hqd)
  have HP := Lib.hid hp
  clear k hp hpc hnd hua hug hqd
  go_enter Tryz.func81, Tryz.ntmps81
  go_wp2_with fail
  refine HI.out.mono ?_
  rintro en w2 ⟨rfl, a2, u2, t2⟩
  have K2 := Lib.hid (And.intro (KH.out.1.next (t2.mono (T := [a, g, q, u]) (by simp)) a2 (KH.out.1.sp.turns t2 KH.out.2) u2 KH.out.1.sl) (t2.mono (T := [a, g, q, u]) (by simp)))
  clear a2 u2 t2
  go_wp2
  go_ret
  rw [HX.out]
  refine ⟨rfl, ?_, K2.out.2⟩
  rw [show ({ ({ p with pc := 0 } : Sp) with pc := p.pc } : Sp) = p from rfl, set_same HP.out]
  exact K2.out.1
end
end Go.Proofs.YtkdaiomjbkpedaaGreat
end
section
/- Layer 29 (hclh): Step. -/
namespace Go.Proofs.YtkdaiomjbkpedaaGreat
open Go.RowKit

def HCond (h : Hc) : Prop := h.ar.ops + 1 ≤ 1000000000000 ∧ ∀ j p, h.S[j]? = some p → (0 ≤ dv h.D j ∧ dv h.D j < 1000000000) ∧ (p.pc = 2 → 1 ≤ p.b ∧ p.b ≤ 100000) ∧ (p.pc = 5 → 0 ≤ p.a ∧ p.a < 9223372036854775808)
section
variable {w w' : World} {l a g q b u lo hi : Nat} {dl : Int} {P T : List Int} {h : Hc}
set_option maxRecDepth 100000 in
set_option maxHeartbeats 4000000 in
theorem stepHl (k : HcIs w l a g q b u lo hi dl P T h) (i : Int) (C : HCond h) :
    Calls Tryz.prog 40 #[.pointer (some ⟨l, 0, none⟩), .int .i64 i] w (HOp w l a g q b u lo hi dl P T (stepH (leavesL P).length T.length dl (nodeN P T) h i)) := by
  have hfield := field_pc
  have H := Lib.hid k
  obtain ⟨_, HN, _⟩ := k.n32
  have hsl := k.sl
  obtain ⟨ho, hcond⟩ := C
  obtain ⟨p, hp⟩ : ∃ p, p = getS h.S i := ⟨_, rfl⟩
  have HP := Lib.hid hp
  by_cases hc : okI h.S i ∧ goesH p = true
  · obtain ⟨hi9, hg⟩ := hc
    have hget := getS_in hi9
    rw [← hp] at hget
    obtain ⟨hd, hb2, ha5⟩ := hcond _ _ hget
    obtain ⟨h0, h9⟩ := id hi9
    obtain ⟨n, rfl⟩ := Int.eq_ofNat_of_zero_le h0
    simp only [Int.toNat_natCast] at hget hd
    rw [hsl] at h9
    have hn : n < T.length := by omega
    have hn2 : (n : Int) < T.length := by omega
    obtain ⟨y, hy⟩ : ∃ y, y = stepHp (leavesL P).length T.length dl h (nodeN P T n) n p := ⟨_, rfl⟩
    have HS : Hid (stepH (leavesL P).length T.length dl (nodeN P T) h n = (⟨y.1, y.2.1, h.S.set n y.2.2⟩, decide (y.2.2.pc = 10 ∨ y.2.2.pc = 0))) := Lib.hid (by
      unfold stepH
      rw [← HP.out, if_pos ⟨hi9, hg⟩]
      simp only [Int.toNat_natCast]
      rw [hy])
    rcases goes_iff.1 hg with e | e | e | e | e | e
    all_goals
      first
        | have HM0 := fun W (k : HcIs W l a g q b u lo hi dl P T h) => standH k n hn p hget ho hd e
        | have HM0 := fun W (k : HcIs W l a g q b u lo hi dl P T h) => waitH k n hn p hget (hb2 e) e
        | have HM0 := fun W (k : HcIs W l a g q b u lo hi dl P T h) => cutH k n hn p hget ho e
        | have HM0 := fun W (k : HcIs W l a g q b u lo hi dl P T h) => spliceH k n hn p hget ho e
        | have HM0 := fun W (k : HcIs W l a g q b u lo hi dl P T h) => lookH k n hn p hget ho (ha5 e) e
        | have HM0 := fun W (k : HcIs W l a g q b u lo hi dl P T h) => freeH k n hn p hget ho hd e
      rw [← hy] at HM0
      have HM := Lib.hid HM0
      first | have u1 : (p.pc == 1) = true := by simp [e]
            | have u1 : (p.pc == 1) = false := by simp [e]
      first | have u2 : (p.pc == 2) = true := by simp [e]
            | have u2 : (p.pc == 2) = false := by simp [e]
      first | have u3 : (p.pc == 3) = true := by simp [e]
            | have u3 : (p.pc == 3) = false := by simp [e]
      first | have u4 : (p.pc == 4) = true := by simp [e]
            | have u4 : (p.pc == 4) = false := by simp [e]
      first | have u5 : (p.pc == 5) = true := by simp [e]
            | have u5 : (p.pc == 5) = false := by simp [e]
      first | have u6 : (p.pc == 11) = true := by simp [e]
            | have u6 : (p.pc == 11) = false := by simp [e]
      have HG := Lib.hid hget
      clear k hp hget h0 h9 hi9 hg hd hb2 ha5 hcond hy HM0 e hsl
      go_enter Tryz.func40, Tryz.ntmps40
      go_wp2_with fail
      refine (spotH H.out n).mono ?_
      rintro en w1 ⟨rfl, b1⟩
      rw [← HP.out]
      unfold spotV
      have H1 := Lib.hid (And.intro (H.out.below b1) b1)
      clear b1
      go_wp2_with fail
      refine (HM.out _ H1.out.1).mono ?_
      rintro en w2 ⟨rfl, K2, t2⟩
      have hg2 : (h.S.set n { y.2.2 with pc := p.pc })[n]? = some { y.2.2 with pc := p.pc } := by
        have := (List.getElem?_eq_some_iff.1 HG.out).1
        simp [this]
      have c5 := K2.c5
      have d0 := K2.sp.cell hg2 0 _ rfl
      simp only [Nat.add_zero] at d0
      have f0 := K2.sp.free (n * 4)
      have hq := K2.sp.lt
      have K3 := K2.putS hg2 (j := 0) (v := .int .i64 y.2.2.pc) (p' := y.2.2) (by decide) rfl
      simp only [Nat.add_zero, List.set_set] at K3
      have H2 := Lib.hid (And.intro K3 (((Turns.of_below H1.out.2).trans t2).trans (turns_q ⟨q, n * 4, none⟩ (.int .i64 y.2.2.pc) rfl)))
      clear K2 t2 hg2 K3
      cases z1 : (y.2.2.pc == 10)
      · cases z0 : (y.2.2.pc == 0)
        · have HD : Hid (decide (y.2.2.pc = 10 ∨ y.2.2.pc = 0) = false) := Lib.hid (by simp at z0 z1; simp [z0, z1])
          go_wp2
          go_ret
          rw [HS.out]
          exact ⟨ret_bool HD.out.symm, H2.out.1, H2.out.2⟩
        · have HD : Hid (decide (y.2.2.pc = 10 ∨ y.2.2.pc = 0) = true) := Lib.hid (by simp at z0; simp [z0])
          go_wp2
          go_ret
          rw [HS.out]
          exact ⟨ret_bool HD.out.symm, H2.out.1, H2.out.2⟩
      · have HD : Hid (decide (y.2.2.pc = 10 ∨ y.2.2.pc = 0) = true) := Lib.hid (by simp at z1; simp [z1])
        go_wp2
        go_ret
        rw [HS.out]
        exact ⟨ret_bool HD.out.symm, H2.out.1, H2.out.2⟩
  · have HS : Hid (stepH (leavesL P).length T.length dl (nodeN P T) h i = (h, false)) := Lib.hid (by unfold stepH; rw [← hp, if_neg hc])
    have hz : goesH p = false := by
      by_cases hi9 : okI h.S i
      · cases hg : goesH p
        · rfl
        · exact absurd ⟨hi9, hg⟩ hc
      · rw [hp, getS_out hi9]; rfl
    unfold goesH at hz
    simp only [Bool.or_eq_false_iff] at hz
    obtain ⟨⟨⟨⟨⟨u1, u2⟩, u3⟩, u4⟩, u5⟩, u6⟩ := hz
    clear k hp hc hcond hsl
    go_enter Tryz.func40, Tryz.ntmps40
    go_wp2_with fail
    refine (spotH H.out i).mono ?_
    rintro en w1 ⟨rfl, b1⟩
    rw [← HP.out]
    unfold spotV
    have H1 := Lib.hid (And.intro (H.out.below b1) b1)
    clear b1
    go_wp2
    go_ret
    rw [HS.out]
    exact ⟨rfl, H1.out.1, Turns.of_below H1.out.2⟩
end
end Go.Proofs.YtkdaiomjbkpedaaGreat
end
section
/- Layer 29 (hclh): a new lock. -/
namespace Go.Proofs.YtkdaiomjbkpedaaGreat
open Go.RowKit

theorem rightB (b : Int) (w : World) (h0 : 0 ≤ b) (h1 : b ≤ 1000) : Calls Tryz.prog 52 #[.int .i64 b] w fun e w' => e = .returned (.bool true) ∧ w = w' := by
  have HI : Calls Tryz.prog 89 #[.int .i64 b, .int .i64 0, .int .i64 1000] w fun e w' => e = .returned (.bool true) ∧ w = w' := by
    go_enter Tryz.func89, Tryz.ntmps89
    go_wp2
    go_ret
    exact ⟨rfl, rfl⟩
  have H := Lib.hid HI
  clear HI
  go_enter Tryz.func52, Tryz.ntmps52
  go_wp2_with fail
  refine H.out.mono ?_
  rintro en w1 ⟨rfl, rfl⟩
  go_wp2
  go_ret
  exact ⟨rfl, rfl⟩
theorem Tryz.infoSp : (Tryz.prog.info? 35).map (fun i => (i.zero, i.size, i.bytes)) = some (some (.agg #[.int .i64 0, .int .i64 0, .int .i64 0, .int .i64 0]), 4, 32) := by kernel_rfl
theorem made_const4 (u : Value) (n : Nat) : (madeCells #[u, u, u, u] n).toList = List.replicate n u := by
  unfold madeCells
  rw [Array.toList_map, Array.toList_range]
  refine List.ext_getElem? fun i => ?_
  rw [List.getElem?_map, List.getElem?_replicate]
  by_cases h : i < n
  · rw [List.getElem?_range h, if_pos h]
    have : i % 4 = 0 ∨ i % 4 = 1 ∨ i % 4 = 2 ∨ i % 4 = 3 := by omega
    rcases this with e | e | e | e <;> simp [e]
  · rw [if_neg h]; simp; omega
theorem flat_zero (n : Nat) : (List.replicate n Sp.zero).flatMap encP4 = List.replicate (n * 4) (.int .i64 0) := by
  induction n with
  | zero => rfl
  | succ n ih => rw [List.replicate_succ, List.flatMap_cons, ih, show (n + 1) * 4 = 4 + n * 4 by omega, ← List.replicate_append_replicate]; rfl
def hc0 (s : Ar) (nd n : Nat) : Hc := ⟨{ s with W := List.replicate (1 + nd + n) 0 }, List.replicate 32 0, List.replicate n Sp.zero⟩
def NewHc (w : World) (a g : Nat) (s : Ar) (d : Int) (P T : List Int) (e : Ending) (w' : World) : Prop :=
  ∃ l q b u lo hi, e = .returned (.tuple #[.pointer (some ⟨l, 0, none⟩), .int .i64 0]) ∧ HcIs w' l a g q b u lo hi d P T (hc0 s (leavesL P).length T.length) ∧ w.heap.size ≤ l ∧ w.heap.size ≤ q ∧ w.heap.size ≤ b ∧ w.heap.size ≤ u ∧ Turns [a] w w'
set_option maxRecDepth 100000 in
set_option maxHeartbeats 4000000 in
theorem newHc {w : World} {a g : Nat} {s : Ar} (h : ArIs w a g s) (hs : s.W = []) (hag : a ≠ g) (vP vT : Value) (P T : List Int) (hP : RdL w vP 1 encI P) (hT : RdL w vT 1 encI T) (hc : chkT P T = 0) (d : Int) (hd0 : 0 ≤ d) (hd1 : d ≤ 1000) (hr : s.room = 4096) :
    Calls Tryz.prog 38 #[.pointer (some ⟨a, 0, none⟩), .agg #[vP, vT], .int .i64 d] w (NewHc w a g s d P T) := by
  obtain ⟨i0, hi, hz0, hz1, hz2⟩ := info_parts Tryz.infoSp
  have hml := many_lt (chk_ok hc).1
  have h32 : (leavesL P).length ≤ 32 := by
    have := leavesTo_len P P.length
    show (leavesTo P P.length).length ≤ 32; omega
  have ha0 := h.blk.lt
  have hg0 := h.wds.lt
  obtain ⟨hT1, hT32⟩ : 1 ≤ T.length ∧ T.length ≤ 32 := ⟨hml.2.2.1, hml.2.2.2⟩
  obtain ⟨nd, hnd⟩ : ∃ nd, nd = (leavesL P).length := ⟨_, rfl⟩
  have HND := Lib.hid hnd
  rw [← hnd] at h32
  have H := Lib.hid (And.intro h (And.intro ha0 hg0))
  have HN := Lib.hid (new_yesL (w.alloc (.cells #[vP, vT] 24)) vP vT P T (hP.alloc _) (hT.alloc _) hc)
  have HNo := fun lo W b h => nodesL lo W b P T hc h
  rw [← hnd] at HNo
  have HNO := Lib.hid HNo
  have HS := Lib.hid (And.intro hs hr)
  have HR := Lib.hid (fun W => rightB d W hd0 hd1)
  have hlo : (w.alloc (.cells #[vP, vT] 24)).heap.size = w.heap.size + 1 := by simp
  have B0 := Lib.hid ((Below.refl w.heap.size w).alloc (Nat.le_refl _) (.cells #[vP, vT] 24))
  have x1 : IntKind.i64.wrap (1 + (nd : Int)) = 1 + nd := IntWalk.i64_in _ (by omega)
  clear h hs hP hT hd0 hd1 hr hml HNo hnd ha0 hg0
  go_enter Tryz.func38, Tryz.ntmps38
  go_wp2_with fail
  refine HN.out.mono ?_
  rintro en w1 ⟨b, rfl, hb, t1, b1⟩
  rw [hlo] at hb t1 b1
  have K1 := Lib.hid (And.intro t1 (B0.out.trans (b1.mono (by omega))))
  have HB := Lib.hid hb
  clear t1 b1 hb HN
  go_wp2_with fail
  refine (HR.out _).mono ?_
  rintro en w1' ⟨rfl, rfl⟩
  go_wp2_with fail
  refine (HNO.out _ _ _ K1.out.1).mono ?_
  rintro en w2 ⟨rfl, t2, u2⟩
  have hs1 := K1.out.2.size
  have hs2 := u2.size
  have T2 : Turns [] w w2 := ((Turns.of_below (S := [b]) K1.out.2).trans u2).fresh (by have := HB.out; simp; omega)
  have A2 := H.out.1.turns T2 (by simp) (by simp)
  have K2 := Lib.hid (And.intro t2 (And.intro T2 (And.intro A2 (Nat.le_trans hs1 hs2))))
  clear t2 u2 hs1 hs2 T2 A2
  go_wp2_with fail
  have HT : Hid (takeA s (1 + (nd : Int)) = ({ s with W := List.replicate (1 + nd) 0 }, (1 : Int), (0 : Int))) := Lib.hid (by
    unfold takeA
    rw [HS.out.1, HS.out.2, if_neg (by omega), if_neg (by simp; omega), show (1 + (nd : Int)).toNat = 1 + nd by omega]; rfl)
  refine (take_any K2.out.2.2.1 (1 + (nd : Int))).mono ?_
  rintro en w3 ⟨rfl, k3, t3⟩
  rw [HT.out] at k3 ⊢
  have hs3 := t3.size
  have Q3 : TabL (w.heap.size + 1) w2.heap.size w3 b P T := K2.out.1.keep (fun i h1 h2 => t3.block i h2 (by have := H.out.2.1; simp; omega)) hs3
  have K3 := Lib.hid (And.intro Q3 (And.intro (K2.out.2.1.mono (T := [a]) (by simp) |>.trans t3) (And.intro k3 (Nat.le_trans K2.out.2.2.2 hs3))))
  have hs3' := Lib.hid hs3
  clear k3 t3 Q3 hs3
  go_wp2_with fail
  refine (threads_any _ _ _ _ K3.out.1.f.tab).mono ?_
  rintro en w3' ⟨rfl, rfl⟩
  go_wp2_with fail
  refine (newU K3.out.2.2.1 T.length hT1 hT32 (by have := HS.out.2; simp; omega)).mono ?_
  rintro en w4 ⟨u, rfl, hu, k4, v4, t4⟩
  have hs4 := t4.size
  have hbl := K3.out.1.high
  have Q4 : TabL (w.heap.size + 1) w2.heap.size w4 b P T := K3.out.1.keep (fun i h1 h2 => t4.block i (by have := hs3'.out; omega) (by have := H.out.2.1; simp; omega)) (by have := hs3'.out; omega)
  have K4 := Lib.hid (And.intro Q4 (And.intro (K3.out.2.1.trans t4) (And.intro k4 (And.intro v4 (And.intro (show w3.heap.size ≤ u from hu) (show w3.heap.size ≤ w4.heap.size from hs4))))))
  have H4 := Lib.hid (show w2.heap.size ≤ w4.heap.size by have := hs3'.out; omega)
  clear k4 v4 t4 Q4 hs4 hu
  go_wp2_with fail
  refine (threads_any _ _ _ _ K4.out.1.f.tab).mono ?_
  rintro en w4' ⟨rfl, rfl⟩
  go_wp2_with (refine wpList_make_full _ rfl (.tmp 52) (.tmp 52) 71 rfl w4.heap.size 35 i0 (.agg #[.int .i64 0, .int .i64 0, .int .i64 0, .int .i64 0]) 4 Tryz.underlying71 hi hz0 hz1 .i64 .i64 T.length T.length T.length rfl rfl rfl rfl ?b2 ?b3 (Nat.le_refl _) ?_)
  case b2 => rw [hz2]; omega
  case b3 => unfold maxLen; omega
  intro w5 hown hg
  have hb : SpIs w5 w4.heap.size (List.replicate T.length Sp.zero) := by
    unfold SpIs
    rw [flat_zero]
    have := own_blk hown
    have e : (madeCells #[Value.int .i64 0, .int .i64 0, .int .i64 0, .int .i64 0] (T.length * 4)).toList = List.replicate (T.length * 4) (.int .i64 0) := made_const4 _ _
    rw [e] at this
    exact this
  have t5 : Turns [] w4 w5 := Turns.of_below ((Below.refl w4.heap.size w4).grown hg (Nat.le_refl _) (fun j hj => by cases hj))
  have hs5 := hb.lt
  have H5 := Lib.hid (And.intro hb t5)
  clear hown hg hb t5
  go_wp2
  go_ret2
  have t6 : Turns [] w4 (w5.alloc (.cells #[.pointer (some ⟨a, 0, none⟩), .pointer (some ⟨b, 0, none⟩), .int .i64 1, .pointer (some ⟨u, 0, none⟩), .int .i64 d, .slice (some ⟨w4.heap.size, 0, none⟩) T.length T.length] 73)) := H5.out.2.alloc _
  have s23 := hs3'.out
  have s34 := K4.out.2.2.2.2.2
  have s3u := K4.out.2.2.2.2.1
  have sw2 := K2.out.2.2.2
  have hbb := HB.out
  have hub := K4.out.2.2.2.1.blk.lt
  have hal := H.out.2.1
  have hgl := H.out.2.2
  have s56 : w5.heap.size + 1 = (w5.alloc (.cells #[.pointer (some ⟨a, 0, none⟩), .pointer (some ⟨b, 0, none⟩), .int .i64 1, .pointer (some ⟨u, 0, none⟩), .int .i64 d, .slice (some ⟨w4.heap.size, 0, none⟩) T.length T.length] 73)).heap.size := by simp
  have k6 := K4.out.2.2.1.turns t6 (by simp) (by simp)
  have u6 := K4.out.2.2.2.1.turns t6 (by simp)
  have e1 : (List.replicate (1 + nd) (0 : Int)) ++ List.replicate T.length 0 = List.replicate (1 + (leavesL P).length + T.length) 0 := by rw [List.replicate_append_replicate, ← HND.out]
  refine ⟨w5.heap.size, w4.heap.size, b, u, w.heap.size + 1, w2.heap.size, rfl, ⟨?_, ?_, ?_, ?_, ?_, ?_, ?_, ?_, ?_⟩, ?_, ?_, ?_, ?_, ?_⟩
  · unfold hc0
    rw [← e1]
    exact k6
  · exact Blk.new w5 _ _
  · exact H5.out.1.turns (T := []) ((Turns.refl _ _).alloc _) (by simp)
  · have : (((List.replicate (1 + nd) (0 : Int)).length : Int) + 1) = 2 + ((leavesL P).length : Int) := by rw [← HND.out]; simp; omega
    rw [← this]
    exact u6
  · exact K4.out.1.keep (fun i h1 h2 => t6.block i (by omega) (by simp)) (by rw [← s56]; omega)
  · simp [hc0]
  · omega
  · simp; omega
  · simp; omega
  · omega
  · omega
  · omega
  · omega
  · exact K4.out.2.1.trans (t6.mono (by simp))
end Go.Proofs.YtkdaiomjbkpedaaGreat
end
section
/- Layers 30, 31 (scan, cna): a new walk. -/
namespace Go.Proofs.YtkdaiomjbkpedaaGreat
open Go.RowKit

theorem Tryz.infoInC : (Tryz.prog.info? 3).map (fun i => (i.zero, i.size, i.bytes)) = some (some (.int .i64 0), 1, 8) := by kernel_rfl
def NewSc (w : World) (a : Nat) (nd : List Int) (e : Ending) (w' : World) : Prop :=
  ∃ k n1 b0 b1 b2, e = .returned (.pointer (some ⟨k, 0, none⟩)) ∧ WkIs w' k n1 (.func (.func 124) #[] #[.pointer (some ⟨b0, 0, none⟩), .pointer (some ⟨b1, 0, none⟩), .pointer (some ⟨b2, 0, none⟩)]) nd ⟨0, false, 0, 0, 0⟩ ∧
    Blk w' b0 27 #[.pointer (some ⟨a, 0, none⟩)] ∧ Blk w' b1 3 #[.int .i64 3] ∧ Blk w' b2 3 #[.int .i64 3] ∧ (w.heap.size ≤ b0 ∧ w.heap.size ≤ b1 ∧ w.heap.size ≤ b2 ∧ w.heap.size ≤ n1 ∧ b0 < k ∧ b1 < k ∧ b2 < k ∧ n1 < k) ∧ Below w.heap.size w w'
set_option maxRecDepth 100000 in
set_option maxHeartbeats 2000000 in
theorem newSc (w : World) (a nb cap : Nat) (nd : List Int) (h32 : 1 ≤ nd.length ∧ nd.length ≤ 32) (hrow : ∀ m, m < nd.length → w.cell? ⟨nb, m, none⟩ = some (.int .i64 (ndf nd m))) :
    Calls Tryz.prog 87 #[.pointer (some ⟨a, 0, none⟩), .int .i64 3, .int .i64 3, .slice (some ⟨nb, 0, none⟩) nd.length cap] w (NewSc w a nd) := by
  have hmf : ∀ (fn : Fn) (first cap : Array Value) (w : World), (Instr.makeFunc fn first cap).run Tryz.prog w = .ok (.func fn first cap) w := fun _ _ _ _ => rfl
  obtain ⟨i0, i0a, i0b, i0c, i0d⟩ := info_parts Tryz.infoInC
  obtain ⟨_, hn⟩ := h32
  have HR := Lib.hid hrow
  have hnbl : nb < w.heap.size := block_lt_of_cell (hrow 0 (by omega))
  obtain ⟨wa, hwa⟩ : ∃ x, x = ((w.alloc (.cells #[.pointer (some ⟨a, 0, none⟩)] 27)).alloc (.cells #[.int .i64 3] 3)).alloc (.cells #[.int .i64 3] 3) := ⟨_, rfl⟩
  have hsz : wa.heap.size = w.heap.size + 3 := by rw [hwa]; simp
  have HA := Lib.hid (show Below w.heap.size w wa ∧ Blk wa w.heap.size 27 #[.pointer (some ⟨a, 0, none⟩)] ∧ Blk wa (w.heap.size + 1) 3 #[.int .i64 3] ∧ Blk wa (w.heap.size + 1 + 1) 3 #[.int .i64 3] from by
    rw [hwa]
    refine ⟨(((Below.refl _ _).alloc (Nat.le_refl _) _).alloc (by simp) _).alloc (by simp; omega) _, ((Blk.new _ _ _).alloc _).alloc _, (Blk.new' _ _ _ (by simp)).alloc _, Blk.new' _ _ _ (by simp)⟩)
  have HW := Lib.hid hwa
  have HSZ := Lib.hid hsz
  clear hsz
  clear hrow
  go_enter Tryz.func87, Tryz.ntmps87
  go_upto_region 1 with fail
  rw [← HW.out]
  clear hwa
  go_wp2_with (refine wpList_make_full _ rfl (.tmp 11) (.tmp 11) 22 rfl wa.heap.size 3 i0 (.int .i64 0) 1 Tryz.underlying22 i0a i0b i0c .i64 .i64 nd.length nd.length nd.length rfl rfl rfl rfl ?b2 ?b3 (Nat.le_refl _) ?_)
  case b2 => rw [i0d]; omega
  case b3 => unfold maxLen; omega
  intro w2 hown hg
  have hbk : Blk w2 wa.heap.size 3 (List.replicate nd.length (Value.int .i64 0)).toArray := by
    have := own_blk hown
    have e : (madeCells #[Value.int .i64 0] nd.length).toList = List.replicate nd.length (.int .i64 0) := made_const1 _ _
    rw [e] at this
    simpa using this
  have t2 : Turns [] wa w2 := Turns.of_below ((Below.refl wa.heap.size wa).grown hg (Nat.le_refl _) (fun j hj => by cases hj))
  have hs2 := t2.size
  have hlt2 := hbk.lt
  have H2 := Lib.hid (And.intro hbk t2)
  clear hown hg hbk t2
  have cnb : ∀ m, m < nd.length → ∀ W, Turns [] w2 W → W.cell? ⟨nb, m, none⟩ = some (.int .i64 (ndf nd m)) := fun m hm W t => by
    have T := ((Turns.of_below (S := []) HA.out.1).trans H2.out.2).trans t
    rw [T.cell hnbl (by simp)]
    exact HR.out m hm
  have HCN := Lib.hid cnb
  have hg3 : Hid (∀ o : Obj, Blk (w2.alloc o) wa.heap.size 3 (List.replicate nd.length (Value.int .i64 0)).toArray) := Lib.hid fun o => H2.out.1.alloc o
  have hcopy : Hid (∀ (o : Obj) (j : Nat) (v : Value), (nd.map (Value.int .i64))[j]? = some v → (w2.alloc o).cell? ((⟨nb, 0, none⟩ : Addr).add j) = some v) := Lib.hid fun o j v hv => by
    rw [List.getElem?_map] at hv
    cases hx : nd[j]? with
    | none => rw [hx] at hv; cases hv
    | some y =>
      rw [hx] at hv
      injection hv with hv
      have hj := (List.getElem?_eq_some_iff.1 hx).1
      have := HCN.out j hj (w2.alloc o) ((Turns.refl _ _).alloc _)
      rw [← hv]
      have e : ndf nd j = y := by unfold ndf; rw [List.getD_eq_getElem?_getD, hx]; rfl
      rw [e] at this
      rw [show (⟨nb, 0, none⟩ : Addr).add j = ⟨nb, j, none⟩ by cases j <;> simp [Addr.add]]
      exact this
  obtain ⟨wc, hwc⟩ : ∃ x, x = (w2.alloc (.cells #[.nilFunc, .slice (some ⟨wa.heap.size, 0, none⟩) nd.length nd.length, .int .i64 0, .bool false, .int .i64 0, .int .i64 0, .int .i64 0] 149)).setRow wa.heap.size (nd.map (Value.int .i64)).toArray := ⟨_, rfl⟩
  have hbk2 : Blk wc w2.heap.size 149 #[.nilFunc, .slice (some ⟨wa.heap.size, 0, none⟩) nd.length nd.length, .int .i64 0, .bool false, .int .i64 0, .int .i64 0, .int .i64 0] := by
    rw [hwc]
    exact (setRow_other _ _ _ _ (by omega)).trans (Blk.new _ _ _)
  have hbn2 : Blk wc wa.heap.size 3 (nd.map (Value.int .i64)).toArray := by
    rw [hwc]
    exact setRow_heap _ _ _ _ _ _ (hg3.out _)
  have k0 : wc.cell? ⟨w2.heap.size, 0, none⟩ = some .nilFunc := hbk2.cell 0
  have z0 := hbk2.free 0
  have HC2 := Lib.hid (show Below wa.heap.size wa wc from by
    rw [hwc]
    exact below_setRow ((H2.out.2.below (by simp) (Nat.le_refl _)).alloc hs2 _) (Nat.le_refl _) _)
  have HB2 := Lib.hid (And.intro hbk2 hbn2)
  clear cnb hnbl hbk2 hbn2 hlt2 hs2
  rw [hwc] at k0 z0
  have HWC := Lib.hid hwc
  clear hwc
  go_wp2_with (refine wpList_copy_own rfl (.tmp 18) (.tmp 19) 22 22 rfl 3 Tryz.underlying22 (by kernel_rfl) wa.heap.size 0 nd.length nd.length ⟨nb, 0, none⟩ nd.length cap rfl rfl _ 3 (hg3.out _) (nd.map (Value.int .i64)) (by simp) (hcopy.out _) (by simp) (by simp [Value.oneCell']) ?_)
  go_wp2
  go_ret
  rw [← HWC.out]
  have e3 := HSZ.out
  have e4 := H2.out.1.lt
  refine ⟨w2.heap.size, wa.heap.size, w.heap.size, w.heap.size + 1, w.heap.size + 1 + 1, rfl, ⟨?_, ?_, ?_, hn⟩, ?_, ?_, ?_, ?_, ?_⟩
  · exact HB2.out.1.set_ 0 _
  · exact HB2.out.2.far (by show wa.heap.size ≠ w2.heap.size; omega) _
  · omega
  · exact (HA.out.2.1.below HC2.out (by omega)).far (by show w.heap.size ≠ w2.heap.size; omega) _
  · exact (HA.out.2.2.1.below HC2.out (by omega)).far (by show w.heap.size + 1 ≠ w2.heap.size; omega) _
  · exact (HA.out.2.2.2.below HC2.out (by omega)).far (by show w.heap.size + 1 + 1 ≠ w2.heap.size; omega) _
  · omega
  · exact (HA.out.1.trans (HC2.out.mono (by omega))).setCell (by show w.heap.size ≤ w2.heap.size; omega) _
end Go.Proofs.YtkdaiomjbkpedaaGreat
end
