/- Joined: Hl2, Hl3, Hl4, Hl5, Hc5. -/
import Derived.Test.YtkdaiomjbkpedaaGreatMgHmcsU3
import Derived.Test.YtkdaiomjbkpedaaGreatMgHmcsU13
section
/- Layer 29 (hclh): stand. -/
namespace Go.Proofs.YtkdaiomjbkpedaaGreat
open Go.RowKit

section
variable {w w' : World} {l a g q b u lo hi : Nat} {dl : Int} {P T : List Int} {h : Hc}
def MidOk (w : World) (l a g q b u lo hi : Nat) (dl : Int) (P T : List Int) (h : Hc) (i : Nat) (p : Sp) (x : Ar × List Int × Sp) (e : Ending) (w' : World) : Prop :=
  e = .returned (.int .i64 x.2.2.pc) ∧ HcIs w' l a g q b u lo hi dl P T ⟨x.1, x.2.1, h.S.set i { x.2.2 with pc := p.pc }⟩ ∧ Turns [a, g, q, u] w w'
theorem HcIs.op (k : HcIs w l a g q b u lo hi dl P T h) {ar' : Ar} (t : Turns [a, g] w w') (h1 : ArIs w' a g ar') : HcIs w' l a g q b u lo hi dl P T ⟨ar', h.D, h.S⟩ := by
  have hnd := k.nd
  simp at hnd
  exact k.next (t.mono (by simp)) h1 (k.sp.turns t (by simp; omega)) (k.tu.turns t (by simp; omega)) k.sl
theorem HcIs.putS (k : HcIs w l a g q b u lo hi dl P T h) {i : Nat} {p p' : Sp} (hp : h.S[i]? = some p) {j : Nat} {v : Value} (hj : j < 4) (he : (encP4 p).set j v = encP4 p') : HcIs (w.setCell ⟨q, i * 4 + j, none⟩ v) l a g q b u lo hi dl P T ⟨h.ar, h.D, h.S.set i p'⟩ :=
  k.spot (k.sp.put hp hj he) (by simp [k.sl]) ((Turns.refl _ _).setCell (.inl (by simp)) _)
theorem turns_q {w : World} {a g q u : Nat} (p : Addr) (v : Value) (hp : p.block = q) : Turns [a, g, q, u] w (w.setCell p v) := (Turns.refl _ _).setCell (.inl (by simp [hp])) _
set_option maxRecDepth 100000 in
set_option maxHeartbeats 2000000 in
theorem standH (k : HcIs w l a g q b u lo hi dl P T h) (i : Nat) (hin : i < T.length) (p : Sp) (hp : h.S[i]? = some p) (ho : h.ar.ops + 1 ≤ 1000000000000) (hd : 0 ≤ dv h.D i ∧ dv h.D i < 1000000000) (hpc : p.pc = 1) :
    Calls Tryz.prog 76 #[.pointer (some ⟨l, 0, none⟩), .int .i64 i] w (MidOk w l a g q b u lo hi dl P T h i p (stepHp (leavesL P).length T.length dl h (nodeN P T i) i p)) := by
  obtain ⟨_, HN, _⟩ := k.n32
  have hi2 : (i : Int) < T.length := by omega
  have c5 := k.c5
  obtain ⟨v, hv⟩ : ∃ v, v = ldW h.ar.W (2 + (nodeN P T i : Int)) := ⟨_, rfl⟩
  obtain ⟨ar', har⟩ : ∃ s, s = swapA h.ar (2 + (nodeN P T i : Int)) (tokH i (dv h.D i + 1)) := ⟨_, rfl⟩
  have HX : Hid (stepHp (leavesL P).length T.length dl h (nodeN P T i) i p = (ar', h.D, if v ≠ 0 then { p with a := v, pc := 5 } else if 0 < dl then { p with a := v, b := dl, pc := 2 } else { p with a := v, b := 0, pc := 3 })) := Lib.hid (by
    unfold stepHp
    rw [if_pos hpc, ← hv, ← har])
  have HL := Lib.hid (fun W (k : HcIs W l a g q b u lo hi dl P T h) => localH k i hin)
  have HNx := Lib.hid (fun W (k : HcIs W l a g q b u lo hi dl P T h) => nextU k.tu i hin hd)
  have HSw0 := (fun W (k : HcIs W l a g q b u lo hi dl P T h) => swap_any k.ar (2 + (nodeN P T i : Int)) (tokH i (dv h.D i + 1)) ho)
  rw [← hv, ← har] at HSw0
  have HSw := Lib.hid HSw0
  have HC := Lib.hid (fun W (h : Hc) (k : HcIs W l a g q b u lo hi dl P T h) => And.intro k.c0 (And.intro k.c3 k.c4))
  have K1 := Lib.hid (k.below ((Below.refl _ w).drew))
  have HP := Lib.hid (And.intro hp hpc)
  clear HSw0 k hp hpc hd hv har
  by_cases hv0 : v = 0
  · have t0 : (v != 0) = false := by simpa using hv0
    have HV := Lib.hid hv0
    clear hv0
    by_cases hdl : 0 < dl
    · have HD := Lib.hid hdl
      go_enter Tryz.func76, Tryz.ntmps76
      go_wp2_with fail
      go_region_held3 (fun W => W.cell? ⟨l, 0, none⟩ = some (.pointer (some ⟨a, 0, none⟩)) ∧ W.cell? ⟨l, 3, none⟩ = some (.pointer (some ⟨u, 0, none⟩)) ∧ W.cell? ⟨l, 4, none⟩ = some (.int .i64 dl))
        (first | with_reducible exact HC.out _ _ K1.out | with_reducible exact HC.out _ _ K2.out | with_reducible exact HC.out _ _ K3.out | with_reducible exact HC.out _ _ K4.out | with_reducible exact HC.out _ _ K5.out)
        (first
          | (go_at_call 117; go_loud (refine (HL.out _ K1.out).mono ?_); rintro en w2 ⟨rfl, q2⟩; have K2 := Lib.hid (K1.out.below (Qt.below q2 _)); have T2 := Lib.hid (((Turns.refl [a, g, q, u] w).drew).trans (Turns.of_qt q2)); clear q2)
          | (go_at_call 118; go_loud (refine (HNx.out _ K2.out).mono ?_); rintro en w3 ⟨rfl, b3⟩; have K3 := Lib.hid (K2.out.below b3); have T3 := Lib.hid (T2.out.trans (Turns.of_below b3)); clear b3)
          | (go_at_call 92; go_loud (refine (HSw.out _ K3.out).mono ?_); rintro en w4 ⟨rfl, a4, t4⟩; have K4 := Lib.hid (K3.out.op t4 a4); have T4 := Lib.hid (T3.out.trans (t4.mono (T := [a, g, q, u]) (by simp))); have K5 := Lib.hid (K4.out.putS (p' := { p with a := v }) HP.out.1 (j := 1) (v := .int .i64 v) (by decide) rfl); have e1 := K4.out.sp.cell HP.out.1 1 _ rfl; have z1 := K4.out.sp.free (i * 4 + 1); clear a4 t4))
      all_goals
        have c4 := (HC.out _ _ K5.out).2.2
        have e2 := K5.out.sp.cell (i := i) (p := { p with a := v }) (by simp [K4.out.sl, hin]) 2 _ rfl
        have z2 := K5.out.sp.free (i * 4 + 2)
        have K6 := K5.out.putS (i := i) (p := { p with a := v }) (p' := { p with a := v, b := dl }) (by simp [K4.out.sl, hin]) (j := 2) (v := .int .i64 dl) (by decide) rfl
        simp only [List.set_set] at K6
        have K6H := Lib.hid K6
        clear K6
        go_wp2
        go_ret
        rw [HX.out, if_neg (fun h => h HV.out), if_pos HD.out]
        exact ⟨rfl, by rw [show ({ ({ p with a := v, b := dl, pc := 2 } : Sp) with pc := p.pc } : Sp) = { p with a := v, b := dl } from rfl]; exact K6H.out, (T4.out.trans (turns_q ⟨q, i * 4 + 1, none⟩ _ rfl)).trans (turns_q ⟨q, i * 4 + 2, none⟩ _ rfl)⟩
    · have HD := Lib.hid hdl
      go_enter Tryz.func76, Tryz.ntmps76
      go_wp2_with fail
      go_region_held3 (fun W => W.cell? ⟨l, 0, none⟩ = some (.pointer (some ⟨a, 0, none⟩)) ∧ W.cell? ⟨l, 3, none⟩ = some (.pointer (some ⟨u, 0, none⟩)) ∧ W.cell? ⟨l, 4, none⟩ = some (.int .i64 dl))
        (first | with_reducible exact HC.out _ _ K1.out | with_reducible exact HC.out _ _ K2.out | with_reducible exact HC.out _ _ K3.out | with_reducible exact HC.out _ _ K4.out | with_reducible exact HC.out _ _ K5.out)
        (first
          | (go_at_call 117; go_loud (refine (HL.out _ K1.out).mono ?_); rintro en w2 ⟨rfl, q2⟩; have K2 := Lib.hid (K1.out.below (Qt.below q2 _)); have T2 := Lib.hid (((Turns.refl [a, g, q, u] w).drew).trans (Turns.of_qt q2)); clear q2)
          | (go_at_call 118; go_loud (refine (HNx.out _ K2.out).mono ?_); rintro en w3 ⟨rfl, b3⟩; have K3 := Lib.hid (K2.out.below b3); have T3 := Lib.hid (T2.out.trans (Turns.of_below b3)); clear b3)
          | (go_at_call 92; go_loud (refine (HSw.out _ K3.out).mono ?_); rintro en w4 ⟨rfl, a4, t4⟩; have K4 := Lib.hid (K3.out.op t4 a4); have T4 := Lib.hid (T3.out.trans (t4.mono (T := [a, g, q, u]) (by simp))); have K5 := Lib.hid (K4.out.putS (p' := { p with a := v }) HP.out.1 (j := 1) (v := .int .i64 v) (by decide) rfl); have e1 := K4.out.sp.cell HP.out.1 1 _ rfl; have z1 := K4.out.sp.free (i * 4 + 1); clear a4 t4))
      all_goals
        have c4 := (HC.out _ _ K5.out).2.2
        have e2 := K5.out.sp.cell (i := i) (p := { p with a := v }) (by simp [K4.out.sl, hin]) 2 _ rfl
        have z2 := K5.out.sp.free (i * 4 + 2)
        have K6 := K5.out.putS (i := i) (p := { p with a := v }) (p' := { p with a := v, b := 0 }) (by simp [K4.out.sl, hin]) (j := 2) (v := .int .i64 0) (by decide) rfl
        simp only [List.set_set] at K6
        have K6H := Lib.hid K6
        clear K6
        go_wp2
        go_ret
        rw [HX.out, if_neg (fun h => h HV.out), if_neg (show ¬ 0 < dl by have := HD.out; omega)]
        exact ⟨rfl, by rw [show ({ ({ p with a := v, b := 0, pc := 3 } : Sp) with pc := p.pc } : Sp) = { p with a := v, b := 0 } from rfl]; exact K6H.out, (T4.out.trans (turns_q ⟨q, i * 4 + 1, none⟩ _ rfl)).trans (turns_q ⟨q, i * 4 + 2, none⟩ _ rfl)⟩
  · have t0 : (v != 0) = true := by simpa using hv0
    have HV := Lib.hid hv0
    clear hv0
    go_enter Tryz.func76, Tryz.ntmps76
    go_wp2_with fail
    go_region_held3 (fun W => W.cell? ⟨l, 0, none⟩ = some (.pointer (some ⟨a, 0, none⟩)) ∧ W.cell? ⟨l, 3, none⟩ = some (.pointer (some ⟨u, 0, none⟩)) ∧ W.cell? ⟨l, 4, none⟩ = some (.int .i64 dl))
      (first | with_reducible exact HC.out _ _ K1.out | with_reducible exact HC.out _ _ K2.out | with_reducible exact HC.out _ _ K3.out | with_reducible exact HC.out _ _ K4.out | with_reducible exact HC.out _ _ K5.out)
      (first
        | (go_at_call 117; go_loud (refine (HL.out _ K1.out).mono ?_); rintro en w2 ⟨rfl, q2⟩; have K2 := Lib.hid (K1.out.below (Qt.below q2 _)); have T2 := Lib.hid (((Turns.refl [a, g, q, u] w).drew).trans (Turns.of_qt q2)); clear q2)
        | (go_at_call 118; go_loud (refine (HNx.out _ K2.out).mono ?_); rintro en w3 ⟨rfl, b3⟩; have K3 := Lib.hid (K2.out.below b3); have T3 := Lib.hid (T2.out.trans (Turns.of_below b3)); clear b3)
        | (go_at_call 92; go_loud (refine (HSw.out _ K3.out).mono ?_); rintro en w4 ⟨rfl, a4, t4⟩; have K4 := Lib.hid (K3.out.op t4 a4); have T4 := Lib.hid (T3.out.trans (t4.mono (T := [a, g, q, u]) (by simp))); have K5 := Lib.hid (K4.out.putS (p' := { p with a := v }) HP.out.1 (j := 1) (v := .int .i64 v) (by decide) rfl); have e1 := K4.out.sp.cell HP.out.1 1 _ rfl; have z1 := K4.out.sp.free (i * 4 + 1); clear a4 t4))
    all_goals
      go_wp2
      go_ret
      rw [HX.out, if_pos HV.out]
      exact ⟨rfl, by rw [show ({ ({ p with a := v, pc := 5 } : Sp) with pc := p.pc } : Sp) = { p with a := v } from rfl]; exact K5.out, T4.out.trans (turns_q ⟨q, i * 4 + 1, none⟩ _ rfl)⟩
end
end Go.Proofs.YtkdaiomjbkpedaaGreat
end
section
/- Layer 29 (hclh): wait, cut, splice, look, free. -/
namespace Go.Proofs.YtkdaiomjbkpedaaGreat
open Go.RowKit

section
variable {w w' : World} {l a g q b u lo hi : Nat} {dl : Int} {P T : List Int} {h : Hc}
theorem set_same {S : List Sp} {i : Nat} {p : Sp} (hp : S[i]? = some p) : S.set i p = S := by
  apply List.ext_getElem?
  intro j
  rw [List.getElem?_set]
  by_cases e : i = j
  · subst e
    have := (List.getElem?_eq_some_iff.1 hp).1
    rw [if_pos rfl, if_pos this, hp]
  · rw [if_neg e]
set_option maxRecDepth 100000 in
set_option maxHeartbeats 1000000 in
theorem waitH (k : HcIs w l a g q b u lo hi dl P T h) (i : Nat) (hin : i < T.length) (p : Sp) (hp : h.S[i]? = some p) (hb : 1 ≤ p.b ∧ p.b ≤ 100000) (hpc : p.pc = 2) :
    Calls Tryz.prog 77 #[.pointer (some ⟨l, 0, none⟩), .int .i64 i] w (MidOk w l a g q b u lo hi dl P T h i p (stepHp (leavesL P).length T.length dl h (nodeN P T i) i p)) := by
  obtain ⟨_, HN, _⟩ := k.n32
  have hi2 : (i : Int) < T.length := by omega
  have c5 := k.c5
  have e2 := k.sp.cell hp 2 _ rfl
  have z2 := k.sp.free (i * 4 + 2)
  obtain ⟨hb1, hb2⟩ := hb
  have HX : Hid (stepHp (leavesL P).length T.length dl h (nodeN P T i) i p = (h.ar, h.D, { p with b := p.b - 1, pc := if 0 < p.b - 1 then 2 else 3 })) := Lib.hid (by
    unfold stepHp
    rw [if_neg (by omega), if_pos hpc])
  have K1 := k.putS (p' := { p with b := p.b - 1 }) hp (j := 2) (v := .int .i64 (p.b - 1)) (by decide) rfl
  have KH := Lib.hid K1
  have hql := k.sp.lt
  clear k hp hpc K1
  by_cases hg : 0 < p.b - 1
  · have HG := Lib.hid hg
    go_enter Tryz.func77, Tryz.ntmps77
    go_wp2
    go_ret
    rw [HX.out]
    exact ⟨by rw [if_pos HG.out]; rfl, KH.out, turns_q ⟨q, i * 4 + 2, none⟩ _ rfl⟩
  · have HG := Lib.hid hg
    go_enter Tryz.func77, Tryz.ntmps77
    go_wp2
    go_ret
    rw [HX.out]
    exact ⟨by rw [if_neg (by have := HG.out; omega)]; rfl, KH.out, turns_q ⟨q, i * 4 + 2, none⟩ _ rfl⟩
set_option maxRecDepth 100000 in
set_option maxHeartbeats 2000000 in
theorem cutH (k : HcIs w l a g q b u lo hi dl P T h) (i : Nat) (hin : i < T.length) (p : Sp) (hp : h.S[i]? = some p) (ho : h.ar.ops + 1 ≤ 1000000000000) (hpc : p.pc = 3) :
    Calls Tryz.prog 78 #[.pointer (some ⟨l, 0, none⟩), .int .i64 i] w (MidOk w l a g q b u lo hi dl P T h i p (stepHp (leavesL P).length T.length dl h (nodeN P T i) i p)) := by
  obtain ⟨_, HN, _⟩ := k.n32
  have hi2 : (i : Int) < T.length := by omega
  obtain ⟨v, hv⟩ : ∃ v, v = ldW h.ar.W (2 + (nodeN P T i : Int)) := ⟨_, rfl⟩
  obtain ⟨ar', har⟩ : ∃ s, s = swapA h.ar (2 + (nodeN P T i : Int)) 0 := ⟨_, rfl⟩
  have HX : Hid (stepHp (leavesL P).length T.length dl h (nodeN P T i) i p = (ar', h.D, { p with c := v, pc := 4 })) := Lib.hid (by
    unfold stepHp
    rw [if_neg (by omega), if_neg (by omega), if_pos hpc, ← hv, ← har])
  have HL := Lib.hid (fun W (k : HcIs W l a g q b u lo hi dl P T h) => localH k i hin)
  have HSw0 := (fun W (k : HcIs W l a g q b u lo hi dl P T h) => swap_any k.ar (2 + (nodeN P T i : Int)) 0 ho)
  rw [← hv, ← har] at HSw0
  have HSw := Lib.hid HSw0
  have HC := Lib.hid (fun W (h : Hc) (k : HcIs W l a g q b u lo hi dl P T h) => And.intro k.c0 k.c5)
  have K1 := Lib.hid (k.below ((Below.refl _ w).drew))
  have HP := Lib.hid (And.intro hp hpc)
  clear HSw0 k hp hpc hv har
  go_enter Tryz.func78, Tryz.ntmps78
  go_wp2_with fail
  go_region_held3 (fun W => W.cell? ⟨l, 0, none⟩ = some (.pointer (some ⟨a, 0, none⟩)) ∧ W.cell? ⟨l, 5, none⟩ = some (.slice (some ⟨q, 0, none⟩) T.length T.length))
    (first | with_reducible exact HC.out _ _ K1.out | with_reducible exact HC.out _ _ K2.out | with_reducible exact HC.out _ _ K4.out | with_reducible exact HC.out _ _ K5.out)
    (first
      | (go_at_call 117; go_loud (refine (HL.out _ K1.out).mono ?_); rintro en w2 ⟨rfl, q2⟩; have K2 := Lib.hid (K1.out.below (Qt.below q2 _)); have T2 := Lib.hid (((Turns.refl [a, g, q, u] w).drew).trans (Turns.of_qt q2)); clear q2)
      | (go_at_call 92; go_loud (refine (HSw.out _ K2.out).mono ?_); rintro en w4 ⟨rfl, a4, t4⟩; have K4 := Lib.hid (K2.out.op t4 a4); have T4 := Lib.hid (T2.out.trans (t4.mono (T := [a, g, q, u]) (by simp))); have K5 := Lib.hid (K4.out.putS (p' := { p with c := v }) HP.out.1 (j := 3) (v := .int .i64 v) (by decide) rfl); have e1 := K4.out.sp.cell HP.out.1 3 _ rfl; have z1 := K4.out.sp.free (i * 4 + 3); clear a4 t4))
  all_goals
    go_wp2
    go_ret
    rw [HX.out]
    exact ⟨rfl, K5.out, T4.out.trans (turns_q ⟨q, i * 4 + 3, none⟩ _ rfl)⟩
set_option maxRecDepth 100000 in
set_option maxHeartbeats 2000000 in
theorem spliceH (k : HcIs w l a g q b u lo hi dl P T h) (i : Nat) (hin : i < T.length) (p : Sp) (hp : h.S[i]? = some p) (ho : h.ar.ops + 1 ≤ 1000000000000) (hpc : p.pc = 4) :
    Calls Tryz.prog 79 #[.pointer (some ⟨l, 0, none⟩), .int .i64 i] w (MidOk w l a g q b u lo hi dl P T h i p (stepHp (leavesL P).length T.length dl h (nodeN P T i) i p)) := by
  obtain ⟨_, HN, _⟩ := k.n32
  have hi2 : (i : Int) < T.length := by omega
  have c5 := k.c5
  obtain ⟨v, hv⟩ : ∃ v, v = ldW h.ar.W 1 := ⟨_, rfl⟩
  obtain ⟨ar', har⟩ : ∃ s, s = swapA h.ar 1 p.c := ⟨_, rfl⟩
  have HX : Hid (stepHp (leavesL P).length T.length dl h (nodeN P T i) i p = (ar', h.D, { p with a := v, pc := if v = 0 then 10 else 5 })) := Lib.hid (by
    unfold stepHp
    rw [if_neg (by omega), if_neg (by omega), if_neg (by omega), if_pos hpc, ← hv, ← har])
  have HSw0 := (fun W (k : HcIs W l a g q b u lo hi dl P T h) => swap_any k.ar 1 p.c ho)
  rw [← hv, ← har] at HSw0
  have HSw := Lib.hid HSw0
  have HC := Lib.hid (fun W (h : Hc) (k : HcIs W l a g q b u lo hi dl P T h) (p' : Sp) (hp : h.S[i]? = some p') (hc : p'.c = p.c) => And.intro k.c0 (And.intro k.c2 (show W.cell? ⟨q, i * 4 + 3, none⟩ = some (.int .i64 p.c) by rw [← hc]; exact k.sp.cell hp 3 _ rfl)))
  have K1 := Lib.hid (k.below ((Below.refl _ w).drew))
  have HP := Lib.hid (And.intro hp hpc)
  have hSl := k.sl
  have HSl := Lib.hid hSl
  clear HSw0 k hp hpc hv har hSl
  by_cases hv0 : v = 0
  all_goals
    have t0 : (v == 0) = decide (v = 0) := by by_cases h : v = 0 <;> simp [h]
    first
      | rw [decide_eq_true hv0] at t0
      | rw [decide_eq_false hv0] at t0
    have HV := Lib.hid hv0
    clear hv0
    go_enter Tryz.func79, Tryz.ntmps79
    go_wp2_with fail
    go_region_held3 (fun W => W.cell? ⟨l, 0, none⟩ = some (.pointer (some ⟨a, 0, none⟩)) ∧ W.cell? ⟨l, 2, none⟩ = some (.int .i64 1) ∧ W.cell? ⟨q, i * 4 + 3, none⟩ = some (.int .i64 p.c))
      (first | with_reducible exact HC.out _ _ K1.out p HP.out.1 rfl | with_reducible exact HC.out _ _ K4.out p HP.out.1 rfl | with_reducible exact HC5.out)
      (first
        | (go_at_call 92; go_loud (refine (HSw.out _ K1.out).mono ?_); rintro en w4 ⟨rfl, a4, t4⟩; have K4 := Lib.hid (K1.out.op t4 a4); have T4 := Lib.hid (((Turns.refl [a, g, q, u] w).drew).trans (t4.mono (T := [a, g, q, u]) (by simp))); have K5 := Lib.hid (K4.out.putS (p' := { p with a := v }) HP.out.1 (j := 1) (v := .int .i64 v) (by decide) rfl); have HC5 := Lib.hid (HC.out _ _ K5.out { p with a := v } (by simp [HSl.out, hin]) rfl); have e1 := K4.out.sp.cell HP.out.1 1 _ rfl; have z1 := K4.out.sp.free (i * 4 + 1); clear a4 t4))
    all_goals
      go_wp2
      go_ret
      rw [HX.out]
      first
        | exact ⟨by rw [if_pos HV.out]; rfl, K5.out, T4.out.trans (turns_q ⟨q, i * 4 + 1, none⟩ _ rfl)⟩
        | exact ⟨by rw [if_neg HV.out]; rfl, K5.out, T4.out.trans (turns_q ⟨q, i * 4 + 1, none⟩ _ rfl)⟩
set_option maxRecDepth 100000 in
set_option maxHeartbeats 2000000 in
theorem lookH (k : HcIs w l a g q b u lo hi dl P T h) (i : Nat) (hin : i < T.length) (p : Sp) (hp : h.S[i]? = some p) (ho : h.ar.ops + 1 ≤ 1000000000000) (ha : 0 ≤ p.a ∧ p.a < 9223372036854775808) (hpc : p.pc = 5) :
    Calls Tryz.prog 80 #[.pointer (some ⟨l, 0, none⟩), .int .i64 i] w (MidOk w l a g q b u lo hi dl P T h i p (stepHp (leavesL P).length T.length dl h (nodeN P T i) i p)) := by
  obtain ⟨_, HN, _⟩ := k.n32
  have hnd := k.nd
  have hua : u ≠ a := by simp at hnd; omega
  have hug : u ≠ g := by simp at hnd; omega
  have hi2 : (i : Int) < T.length := by omega
  have c3 := k.c3
  have c5 := k.c5
  have e1 := k.sp.cell hp 1 _ rfl
  obtain ⟨bb, hbb⟩ : ∃ x, x = isB h.ar.W (2 + ((leavesL P).length : Int)) T.length p.a := ⟨_, rfl⟩
  have HX : Hid (stepHp (leavesL P).length T.length dl h (nodeN P T i) i p = (isA h.ar (2 + ((leavesL P).length : Int)) T.length p.a, h.D, { p with pc := if bb then 10 else 5 })) := Lib.hid (by
    unfold stepHp
    rw [if_neg (by omega), if_neg (by omega), if_neg (by omega), if_neg (by omega), if_pos hpc, ← hbb])
  have K1 := k.below ((Below.refl _ w).drew)
  have HI0 := isU K1.ar K1.tu hua hug p.a ha.1 ha.2 ho
  rw [← hbb] at HI0
  have HI := Lib.hid HI0
  have K1H := Lib.hid K1
  have HP := Lib.hid (And.intro hp hpc)
  clear k hp hpc HI0 K1 hnd hua hug hbb ha
  go_enter Tryz.func80, Tryz.ntmps80
  go_wp2_with fail
  refine wp_region_still_tail 12 (by kernel_rfl) (by kernel_rfl) ?_
  simp only [List.take_succ_cons, List.take_zero, List.drop_succ_cons, List.drop_zero]
  change wpStill _ _ (World.drew _) _ _ _
  repeat still_step
  refine wpStill_nil ?_
  change wpList _ _ _ _ _ (World.drew w)
  go_wp2_with fail
  refine HI.out.mono ?_
  rintro en w2 ⟨rfl, a2, t2⟩
  have K2 := Lib.hid (K1H.out.op t2 a2)
  have T2 := Lib.hid (((Turns.refl [a, g, q, u] w).drew).trans (t2.mono (T := [a, g, q, u]) (by simp)))
  clear a2 t2
  cases bb
  all_goals
    go_wp2
    go_ret
    rw [HX.out]
    refine ⟨rfl, ?_, T2.out⟩
    have e : h.S.set i ({ ({ p with pc := 0 } : Sp) with pc := p.pc } : Sp) = h.S := set_same HP.out.1
    rw [show ∀ x : Int, ({ ({ p with pc := x } : Sp) with pc := p.pc } : Sp) = p from fun _ => rfl, set_same HP.out.1]
    exact K2.out
set_option maxHeartbeats 1000000 in
theorem freeH (k : HcIs w l a g q b u lo hi dl P T h) (i : Nat) (hin : i < T.length) (p : Sp) (hp : h.S[i]? = some p) (ho : h.ar.ops + 1 ≤ 1000000000000) (hd : 0 ≤ dv h.D i ∧ dv h.D i < 1000000000) (hpc : p.pc = 11) :
    Calls Tryz.prog 81 #[.pointer (some ⟨l, 0, none⟩), .int .i64 i] w (MidOk w l a g q b u lo hi dl P T h i p (stepHp (leavesL P).length T.length dl h (nodeN P T i) i p)) := by
  have hnd := k.nd
  have hua : u ≠ a := by simp at hnd; omega
  have hug : u ≠ g := by simp at hnd; omega
  have hqd : q ∉ [a, g, u] := by simp at hnd ⊢; omega
  have c3 := k.c3
  have HX : Hid (stepHp (leavesL P).length T.length dl h (nodeN P T i) i p = (addA h.ar (2 + ((leavesL P).length : Int) + i) 1, h.D.set i (dv h.D i + 1), { p with pc := 0 })) := Lib.hid (by
    unfold stepHp
    rw [if_neg (by omega), if_neg (by omega), if_neg (by omega), if_neg (by omega), if_neg (by omega)])
  have HI := Lib.hid (doneU k.ar k.tu hua hug i hin hd ho)
  have KH := Lib.hid (And.intro k hqd)
  have HP := Lib.hid hp
  clear k hp hpc hnd hua hug hqd
  go_enter Tryz.func81, Tryz.ntmps81
  go_wp2_with fail
  refine HI.out.mono ?_
  rintro en w2 ⟨rfl, a2, u2, t2⟩
  have K2 := Lib.hid (And.intro (KH.out.1.next (t2.mono (T := [a, g, q, u]) (by simp)) a2 (KH.out.1.sp.turns t2 KH.out.2) u2 KH.out.1.sl) (t2.mono (T := [a, g, q, u]) (by simp)))
  clear a2 u2 t2
  go_wp2
  go_ret
  rw [HX.out]
  refine ⟨rfl, ?_, K2.out.2⟩
  rw [show ({ ({ p with pc := 0 } : Sp) with pc := p.pc } : Sp) = p from rfl, set_same HP.out]
  exact K2.out.1
end
end Go.Proofs.YtkdaiomjbkpedaaGreat
end
section
/- Layer 29 (hclh): Step. -/
namespace Go.Proofs.YtkdaiomjbkpedaaGreat
open Go.RowKit

def HCond (h : Hc) : Prop := h.ar.ops + 1 ≤ 1000000000000 ∧ ∀ j p, h.S[j]? = some p → (0 ≤ dv h.D j ∧ dv h.D j < 1000000000) ∧ (p.pc = 2 → 1 ≤ p.b ∧ p.b ≤ 100000) ∧ (p.pc = 5 → 0 ≤ p.a ∧ p.a < 9223372036854775808)
section
variable {w w' : World} {l a g q b u lo hi : Nat} {dl : Int} {P T : List Int} {h : Hc}
set_option maxRecDepth 100000 in
set_option maxHeartbeats 4000000 in
theorem stepHl (k : HcIs w l a g q b u lo hi dl P T h) (i : Int) (C : HCond h) :
    Calls Tryz.prog 40 #[.pointer (some ⟨l, 0, none⟩), .int .i64 i] w (HOp w l a g q b u lo hi dl P T (stepH (leavesL P).length T.length dl (nodeN P T) h i)) := by
  have hfield := field_pc
  have H := Lib.hid k
  obtain ⟨_, HN, _⟩ := k.n32
  have hsl := k.sl
  obtain ⟨ho, hcond⟩ := C
  obtain ⟨p, hp⟩ : ∃ p, p = getS h.S i := ⟨_, rfl⟩
  have HP := Lib.hid hp
  by_cases hc : okI h.S i ∧ goesH p = true
  · obtain ⟨hi9, hg⟩ := hc
    have hget := getS_in hi9
    rw [← hp] at hget
    obtain ⟨hd, hb2, ha5⟩ := hcond _ _ hget
    obtain ⟨h0, h9⟩ := id hi9
    obtain ⟨n, rfl⟩ := Int.eq_ofNat_of_zero_le h0
    simp only [Int.toNat_natCast] at hget hd
    rw [hsl] at h9
    have hn : n < T.length := by omega
    have hn2 : (n : Int) < T.length := by omega
    obtain ⟨y, hy⟩ : ∃ y, y = stepHp (leavesL P).length T.length dl h (nodeN P T n) n p := ⟨_, rfl⟩
    have HS : Hid (stepH (leavesL P).length T.length dl (nodeN P T) h n = (⟨y.1, y.2.1, h.S.set n y.2.2⟩, decide (y.2.2.pc = 10 ∨ y.2.2.pc = 0))) := Lib.hid (by
      unfold stepH
      rw [← HP.out, if_pos ⟨hi9, hg⟩]
      simp only [Int.toNat_natCast]
      rw [hy])
    rcases goes_iff.1 hg with e | e | e | e | e | e
    all_goals
      first
        | have HM0 := fun W (k : HcIs W l a g q b u lo hi dl P T h) => standH k n hn p hget ho hd e
        | have HM0 := fun W (k : HcIs W l a g q b u lo hi dl P T h) => waitH k n hn p hget (hb2 e) e
        | have HM0 := fun W (k : HcIs W l a g q b u lo hi dl P T h) => cutH k n hn p hget ho e
        | have HM0 := fun W (k : HcIs W l a g q b u lo hi dl P T h) => spliceH k n hn p hget ho e
        | have HM0 := fun W (k : HcIs W l a g q b u lo hi dl P T h) => lookH k n hn p hget ho (ha5 e) e
        | have HM0 := fun W (k : HcIs W l a g q b u lo hi dl P T h) => freeH k n hn p hget ho hd e
      rw [← hy] at HM0
      have HM := Lib.hid HM0
      first | have u1 : (p.pc == 1) = true := by simp [e]
            | have u1 : (p.pc == 1) = false := by simp [e]
      first | have u2 : (p.pc == 2) = true := by simp [e]
            | have u2 : (p.pc == 2) = false := by simp [e]
      first | have u3 : (p.pc == 3) = true := by simp [e]
            | have u3 : (p.pc == 3) = false := by simp [e]
      first | have u4 : (p.pc == 4) = true := by simp [e]
            | have u4 : (p.pc == 4) = false := by simp [e]
      first | have u5 : (p.pc == 5) = true := by simp [e]
            | have u5 : (p.pc == 5) = false := by simp [e]
      first | have u6 : (p.pc == 11) = true := by simp [e]
            | have u6 : (p.pc == 11) = false := by simp [e]
      have HG := Lib.hid hget
      clear k hp hget h0 h9 hi9 hg hd hb2 ha5 hcond hy HM0 e hsl
      go_enter Tryz.func40, Tryz.ntmps40
      go_wp2_with fail
      refine (spotH H.out n).mono ?_
      rintro en w1 ⟨rfl, b1⟩
      rw [← HP.out]
      unfold spotV
      have H1 := Lib.hid (And.intro (H.out.below b1) b1)
      clear b1
      go_wp2_with fail
      refine (HM.out _ H1.out.1).mono ?_
      rintro en w2 ⟨rfl, K2, t2⟩
      have hg2 : (h.S.set n { y.2.2 with pc := p.pc })[n]? = some { y.2.2 with pc := p.pc } := by
        have := (List.getElem?_eq_some_iff.1 HG.out).1
        simp [this]
      have c5 := K2.c5
      have d0 := K2.sp.cell hg2 0 _ rfl
      simp only [Nat.add_zero] at d0
      have f0 := K2.sp.free (n * 4)
      have hq := K2.sp.lt
      have K3 := K2.putS hg2 (j := 0) (v := .int .i64 y.2.2.pc) (p' := y.2.2) (by decide) rfl
      simp only [Nat.add_zero, List.set_set] at K3
      have H2 := Lib.hid (And.intro K3 (((Turns.of_below H1.out.2).trans t2).trans (turns_q ⟨q, n * 4, none⟩ (.int .i64 y.2.2.pc) rfl)))
      clear K2 t2 hg2 K3
      cases z1 : (y.2.2.pc == 10)
      · cases z0 : (y.2.2.pc == 0)
        · have HD : Hid (decide (y.2.2.pc = 10 ∨ y.2.2.pc = 0) = false) := Lib.hid (by simp at z0 z1; simp [z0, z1])
          go_wp2
          go_ret
          rw [HS.out]
          exact ⟨ret_bool HD.out.symm, H2.out.1, H2.out.2⟩
        · have HD : Hid (decide (y.2.2.pc = 10 ∨ y.2.2.pc = 0) = true) := Lib.hid (by simp at z0; simp [z0])
          go_wp2
          go_ret
          rw [HS.out]
          exact ⟨ret_bool HD.out.symm, H2.out.1, H2.out.2⟩
      · have HD : Hid (decide (y.2.2.pc = 10 ∨ y.2.2.pc = 0) = true) := Lib.hid (by simp at z1; simp [z1])
        go_wp2
        go_ret
        rw [HS.out]
        exact ⟨ret_bool HD.out.symm, H2.out.1, H2.out.2⟩
  · have HS : Hid (stepH (leavesL P).length T.length dl (nodeN P T) h i = (h, false)) := Lib.hid (by unfold stepH; rw [← hp, if_neg hc])
    have hz : goesH p = false := by
      by_cases hi9 : okI h.S i
      · cases hg : goesH p
        · rfl
        · exact absurd ⟨hi9, hg⟩ hc
      · rw [hp, getS_out hi9]; rfl
    unfold goesH at hz
    simp only [Bool.or_eq_false_iff] at hz
    obtain ⟨⟨⟨⟨⟨u1, u2⟩, u3⟩, u4⟩, u5⟩, u6⟩ := hz
    clear k hp hc hcond hsl
    go_enter Tryz.func40, Tryz.ntmps40
    go_wp2_with fail
    refine (spotH H.out i).mono ?_
    rintro en w1 ⟨rfl, b1⟩
    rw [← HP.out]
    unfold spotV
    have H1 := Lib.hid (And.intro (H.out.below b1) b1)
    clear b1
    go_wp2
    go_ret
    rw [HS.out]
    exact ⟨rfl, H1.out.1, Turns.of_below H1.out.2⟩
end
end Go.Proofs.YtkdaiomjbkpedaaGreat
end
section
/- Layer 29 (hclh): a new lock. -/
namespace Go.Proofs.YtkdaiomjbkpedaaGreat
open Go.RowKit

theorem rightB (b : Int) (w : World) (h0 : 0 ≤ b) (h1 : b ≤ 1000) : Calls Tryz.prog 52 #[.int .i64 b] w fun e w' => e = .returned (.bool true) ∧ w = w' := by
  have HI : Calls Tryz.prog 89 #[.int .i64 b, .int .i64 0, .int .i64 1000] w fun e w' => e = .returned (.bool true) ∧ w = w' := by
    go_enter Tryz.func89, Tryz.ntmps89
    go_wp2
    go_ret
    exact ⟨rfl, rfl⟩
  have H := Lib.hid HI
  clear HI
  go_enter Tryz.func52, Tryz.ntmps52
  go_wp2_with fail
  refine H.out.mono ?_
  rintro en w1 ⟨rfl, rfl⟩
  go_wp2
  go_ret
  exact ⟨rfl, rfl⟩
theorem Tryz.infoSp : (Tryz.prog.info? 35).map (fun i => (i.zero, i.size, i.bytes)) = some (some (.agg #[.int .i64 0, .int .i64 0, .int .i64 0, .int .i64 0]), 4, 32) := by kernel_rfl
theorem made_const4 (u : Value) (n : Nat) : (madeCells #[u, u, u, u] n).toList = List.replicate n u := by
  unfold madeCells
  rw [Array.toList_map, Array.toList_range]
  refine List.ext_getElem? fun i => ?_
  rw [List.getElem?_map, List.getElem?_replicate]
  by_cases h : i < n
  · rw [List.getElem?_range h, if_pos h]
    have : i % 4 = 0 ∨ i % 4 = 1 ∨ i % 4 = 2 ∨ i % 4 = 3 := by omega
    rcases this with e | e | e | e <;> simp [e]
  · rw [if_neg h]; simp; omega
theorem flat_zero (n : Nat) : (List.replicate n Sp.zero).flatMap encP4 = List.replicate (n * 4) (.int .i64 0) := by
  induction n with
  | zero => rfl
  | succ n ih => rw [List.replicate_succ, List.flatMap_cons, ih, show (n + 1) * 4 = 4 + n * 4 by omega, ← List.replicate_append_replicate]; rfl
def hc0 (s : Ar) (nd n : Nat) : Hc := ⟨{ s with W := List.replicate (1 + nd + n) 0 }, List.replicate 32 0, List.replicate n Sp.zero⟩
def NewHc (w : World) (a g : Nat) (s : Ar) (d : Int) (P T : List Int) (e : Ending) (w' : World) : Prop :=
  ∃ l q b u lo hi, e = .returned (.tuple #[.pointer (some ⟨l, 0, none⟩), .int .i64 0]) ∧ HcIs w' l a g q b u lo hi d P T (hc0 s (leavesL P).length T.length) ∧ w.heap.size ≤ l ∧ w.heap.size ≤ q ∧ w.heap.size ≤ b ∧ w.heap.size ≤ u ∧ Turns [a] w w'
set_option maxRecDepth 100000 in
set_option maxHeartbeats 4000000 in
theorem newHc {w : World} {a g : Nat} {s : Ar} (h : ArIs w a g s) (hs : s.W = []) (hag : a ≠ g) (vP vT : Value) (P T : List Int) (hP : RdL w vP 1 encI P) (hT : RdL w vT 1 encI T) (hc : chkT P T = 0) (d : Int) (hd0 : 0 ≤ d) (hd1 : d ≤ 1000) (hr : s.room = 4096) :
    Calls Tryz.prog 38 #[.pointer (some ⟨a, 0, none⟩), .agg #[vP, vT], .int .i64 d] w (NewHc w a g s d P T) := by
  obtain ⟨i0, hi, hz0, hz1, hz2⟩ := info_parts Tryz.infoSp
  have hml := many_lt (chk_ok hc).1
  have h32 : (leavesL P).length ≤ 32 := by
    have := leavesTo_len P P.length
    show (leavesTo P P.length).length ≤ 32; omega
  have ha0 := h.blk.lt
  have hg0 := h.wds.lt
  obtain ⟨hT1, hT32⟩ : 1 ≤ T.length ∧ T.length ≤ 32 := ⟨hml.2.2.1, hml.2.2.2⟩
  obtain ⟨nd, hnd⟩ : ∃ nd, nd = (leavesL P).length := ⟨_, rfl⟩
  have HND := Lib.hid hnd
  rw [← hnd] at h32
  have H := Lib.hid (And.intro h (And.intro ha0 hg0))
  have HN := Lib.hid (new_yesL (w.alloc (.cells #[vP, vT] 24)) vP vT P T (hP.alloc _) (hT.alloc _) hc)
  have HNo := fun lo W b h => nodesL lo W b P T hc h
  rw [← hnd] at HNo
  have HNO := Lib.hid HNo
  have HS := Lib.hid (And.intro hs hr)
  have HR := Lib.hid (fun W => rightB d W hd0 hd1)
  have hlo : (w.alloc (.cells #[vP, vT] 24)).heap.size = w.heap.size + 1 := by simp
  have B0 := Lib.hid ((Below.refl w.heap.size w).alloc (Nat.le_refl _) (.cells #[vP, vT] 24))
  have x1 : IntKind.i64.wrap (1 + (nd : Int)) = 1 + nd := IntWalk.i64_in _ (by omega)
  clear h hs hP hT hd0 hd1 hr hml HNo hnd ha0 hg0
  go_enter Tryz.func38, Tryz.ntmps38
  go_wp2_with fail
  refine HN.out.mono ?_
  rintro en w1 ⟨b, rfl, hb, t1, b1⟩
  rw [hlo] at hb t1 b1
  have K1 := Lib.hid (And.intro t1 (B0.out.trans (b1.mono (by omega))))
  have HB := Lib.hid hb
  clear t1 b1 hb HN
  go_wp2_with fail
  refine (HR.out _).mono ?_
  rintro en w1' ⟨rfl, rfl⟩
  go_wp2_with fail
  refine (HNO.out _ _ _ K1.out.1).mono ?_
  rintro en w2 ⟨rfl, t2, u2⟩
  have hs1 := K1.out.2.size
  have hs2 := u2.size
  have T2 : Turns [] w w2 := ((Turns.of_below (S := [b]) K1.out.2).trans u2).fresh (by have := HB.out; simp; omega)
  have A2 := H.out.1.turns T2 (by simp) (by simp)
  have K2 := Lib.hid (And.intro t2 (And.intro T2 (And.intro A2 (Nat.le_trans hs1 hs2))))
  clear t2 u2 hs1 hs2 T2 A2
  go_wp2_with fail
  have HT : Hid (takeA s (1 + (nd : Int)) = ({ s with W := List.replicate (1 + nd) 0 }, (1 : Int), (0 : Int))) := Lib.hid (by
    unfold takeA
    rw [HS.out.1, HS.out.2, if_neg (by omega), if_neg (by simp; omega), show (1 + (nd : Int)).toNat = 1 + nd by omega]; rfl)
  refine (take_any K2.out.2.2.1 (1 + (nd : Int))).mono ?_
  rintro en w3 ⟨rfl, k3, t3⟩
  rw [HT.out] at k3 ⊢
  have hs3 := t3.size
  have Q3 : TabL (w.heap.size + 1) w2.heap.size w3 b P T := K2.out.1.keep (fun i h1 h2 => t3.block i h2 (by have := H.out.2.1; simp; omega)) hs3
  have K3 := Lib.hid (And.intro Q3 (And.intro (K2.out.2.1.mono (T := [a]) (by simp) |>.trans t3) (And.intro k3 (Nat.le_trans K2.out.2.2.2 hs3))))
  have hs3' := Lib.hid hs3
  clear k3 t3 Q3 hs3
  go_wp2_with fail
  refine (threads_any _ _ _ _ K3.out.1.f.tab).mono ?_
  rintro en w3' ⟨rfl, rfl⟩
  go_wp2_with fail
  refine (newU K3.out.2.2.1 T.length hT1 hT32 (by have := HS.out.2; simp; omega)).mono ?_
  rintro en w4 ⟨u, rfl, hu, k4, v4, t4⟩
  have hs4 := t4.size
  have hbl := K3.out.1.high
  have Q4 : TabL (w.heap.size + 1) w2.heap.size w4 b P T := K3.out.1.keep (fun i h1 h2 => t4.block i (by have := hs3'.out; omega) (by have := H.out.2.1; simp; omega)) (by have := hs3'.out; omega)
  have K4 := Lib.hid (And.intro Q4 (And.intro (K3.out.2.1.trans t4) (And.intro k4 (And.intro v4 (And.intro (show w3.heap.size ≤ u from hu) (show w3.heap.size ≤ w4.heap.size from hs4))))))
  have H4 := Lib.hid (show w2.heap.size ≤ w4.heap.size by have := hs3'.out; omega)
  clear k4 v4 t4 Q4 hs4 hu
  go_wp2_with fail
  refine (threads_any _ _ _ _ K4.out.1.f.tab).mono ?_
  rintro en w4' ⟨rfl, rfl⟩
  go_wp2_with (refine wpList_make_full _ rfl (.tmp 52) (.tmp 52) 71 rfl w4.heap.size 35 i0 (.agg #[.int .i64 0, .int .i64 0, .int .i64 0, .int .i64 0]) 4 Tryz.underlying71 hi hz0 hz1 .i64 .i64 T.length T.length T.length rfl rfl rfl rfl ?b2 ?b3 (Nat.le_refl _) ?_)
  case b2 => rw [hz2]; omega
  case b3 => unfold maxLen; omega
  intro w5 hown hg
  have hb : SpIs w5 w4.heap.size (List.replicate T.length Sp.zero) := by
    unfold SpIs
    rw [flat_zero]
    have := own_blk hown
    have e : (madeCells #[Value.int .i64 0, .int .i64 0, .int .i64 0, .int .i64 0] (T.length * 4)).toList = List.replicate (T.length * 4) (.int .i64 0) := made_const4 _ _
    rw [e] at this
    exact this
  have t5 : Turns [] w4 w5 := Turns.of_below ((Below.refl w4.heap.size w4).grown hg (Nat.le_refl _) (fun j hj => by cases hj))
  have hs5 := hb.lt
  have H5 := Lib.hid (And.intro hb t5)
  clear hown hg hb t5
  go_wp2
  go_ret2
  have t6 : Turns [] w4 (w5.alloc (.cells #[.pointer (some ⟨a, 0, none⟩), .pointer (some ⟨b, 0, none⟩), .int .i64 1, .pointer (some ⟨u, 0, none⟩), .int .i64 d, .slice (some ⟨w4.heap.size, 0, none⟩) T.length T.length] 73)) := H5.out.2.alloc _
  have s23 := hs3'.out
  have s34 := K4.out.2.2.2.2.2
  have s3u := K4.out.2.2.2.2.1
  have sw2 := K2.out.2.2.2
  have hbb := HB.out
  have hub := K4.out.2.2.2.1.blk.lt
  have hal := H.out.2.1
  have hgl := H.out.2.2
  have s56 : w5.heap.size + 1 = (w5.alloc (.cells #[.pointer (some ⟨a, 0, none⟩), .pointer (some ⟨b, 0, none⟩), .int .i64 1, .pointer (some ⟨u, 0, none⟩), .int .i64 d, .slice (some ⟨w4.heap.size, 0, none⟩) T.length T.length] 73)).heap.size := by simp
  have k6 := K4.out.2.2.1.turns t6 (by simp) (by simp)
  have u6 := K4.out.2.2.2.1.turns t6 (by simp)
  have e1 : (List.replicate (1 + nd) (0 : Int)) ++ List.replicate T.length 0 = List.replicate (1 + (leavesL P).length + T.length) 0 := by rw [List.replicate_append_replicate, ← HND.out]
  refine ⟨w5.heap.size, w4.heap.size, b, u, w.heap.size + 1, w2.heap.size, rfl, ⟨?_, ?_, ?_, ?_, ?_, ?_, ?_, ?_, ?_⟩, ?_, ?_, ?_, ?_, ?_⟩
  · unfold hc0
    rw [← e1]
    exact k6
  · exact Blk.new w5 _ _
  · exact H5.out.1.turns (T := []) ((Turns.refl _ _).alloc _) (by simp)
  · have : (((List.replicate (1 + nd) (0 : Int)).length : Int) + 1) = 2 + ((leavesL P).length : Int) := by rw [← HND.out]; simp; omega
    rw [← this]
    exact u6
  · exact K4.out.1.keep (fun i h1 h2 => t6.block i (by omega) (by simp)) (by rw [← s56]; omega)
  · simp [hc0]
  · omega
  · simp; omega
  · simp; omega
  · omega
  · omega
  · omega
  · omega
  · exact K4.out.2.1.trans (t6.mono (by simp))
end Go.Proofs.YtkdaiomjbkpedaaGreat
end
section
/- Layer 29 (hclh): any act; one holder; who is passed. No program in sight. -/
namespace Go.Proofs.YtkdaiomjbkpedaaGreat
open Go

/-- what an act of i comes to -/
structure StA (n : Nat) (node : Nat → Nat) (p p' : Sp) (i : Nat) (Q Q' : List Nat) : Prop where
  row : p.pc = 1 → p'.pc = 5 → ∃ (t : Nat) (d : Int), t < n ∧ node t = node i ∧ 0 ≤ d ∧ p'.a = tokH t d
  stay : p.pc ≠ 4 → p.pc ≠ 11 → Q' = Q
  splice : p.pc = 4 → (∃ r, Q' = Q ++ i :: r) ∧ (p'.pc = 10 → Q = [])
  gone : p.pc = 11 → Q.head? = some i ∧ Q' = Q.tail
  enter : p'.pc = 10 → p.pc ≠ 10 → p.pc = 4 ∨ (p.pc = 5 ∧ Q.head? = some i)
  next : p'.pc = p.pc ∨ (p.pc = 1 ∧ (p'.pc = 2 ∨ p'.pc = 3 ∨ p'.pc = 5)) ∨ (p.pc = 2 ∧ p'.pc = 3) ∨ (p.pc = 3 ∧ p'.pc = 4) ∨ (p.pc = 4 ∧ (p'.pc = 5 ∨ p'.pc = 10)) ∨ (p.pc = 5 ∧ p'.pc = 10) ∨ (p.pc = 11 ∧ p'.pc = 0) ∨ (p.pc = 0 ∧ p'.pc = 1) ∨ (p.pc = 10 ∧ p'.pc = 11)
def ActR (n : Nat) (node : Nat → Nat) (S S' : List Sp) (I : Int) (Q Q' : List Nat) : Prop :=
  (S' = S ∧ Q' = Q) ∨ ∃ (j : Nat) (p' : Sp), j < n ∧ I = j ∧ S' = S.set j p' ∧ StA n node (sv S j) p' j Q Q'
def actH (nd n : Nat) (dl : Int) (node : Nat → Nat) (h : Hc) (k i : Int) : Hc × Bool :=
  if k = 0 then stepH nd n dl node h i else if k = 1 then beginH h i 0 1 else if k = 2 then beginH h i 10 11 else (h, false)
section
variable {nd n N i : Nat} {dl : Int} {node : Nat → Nat} {h : Hc} {G : Nat → List Nat}
theorem getS_nat {S : List Sp} {j : Nat} (h : j < S.length) : getS S (j : Int) = sv S j := by
  unfold getS; rw [if_pos (by omega)]; rfl
theorem HOk.le (k : HOk nd n dl node h N G) {M : Nat} (hM : N ≤ M) : HOk nd n dl node h M G := ⟨k.iv, by have := k.ops; omega, fun t => by have := k.dn t; omega, k.bb⟩
theorem HOk.stepI (k : HOk nd n dl node h N G) (hN : N < 1000000) (I : Int) : ∃ G', HOk nd n dl node (stepH nd n dl node h I).1 (N + 1) G' ∧ (((stepH nd n dl node h I).1 = h ∧ G' = G ∧ ¬ (okI h.S I ∧ goesH (getS h.S I) = true)) ∨ ∃ (j : Nat) (p' : Sp), j < n ∧ I = j ∧ (stepH nd n dl node h I).1.S = h.S.set j p' ∧ StH n node (sv h.S j) p' j (G 0) (G' 0)) ∧ (stepH nd n dl node h I).1.ar.ops ≤ h.ar.ops + 1 := by
  unfold stepH
  by_cases c : okI h.S I ∧ goesH (getS h.S I) = true
  · rw [if_pos c]
    obtain ⟨⟨h0, h1⟩, hg⟩ := c
    obtain ⟨j, rfl⟩ := Int.eq_ofNat_of_zero_le h0
    have hj : j < h.S.length := by omega
    have hjn : j < n := by rw [← k.iv.sl]; exact hj
    rw [getS_nat hj] at hg ⊢
    simp only [Int.toNat_natCast]
    obtain ⟨G', k', s'⟩ := k.step hN hjn hg _ rfl
    refine ⟨G', k', .inr ⟨j, _, hjn, rfl, rfl, s'⟩, ?_⟩
    unfold stepHp
    repeat' split
    all_goals first
      | exact swapA_ops _ _ _
      | exact isA_ops _ _ _ _
      | exact addA_ops _ _ _
      | exact Nat.le_succ _
  · rw [if_neg c]
    exact ⟨G, k.le (by omega), .inl ⟨rfl, rfl, c⟩, Nat.le_succ _⟩
theorem HOk.beginI (k : HOk nd n dl node h N G) (I f u : Int) (hfu : (f = 0 ∧ u = 1) ∨ (f = 10 ∧ u = 11)) : HOk nd n dl node (beginH h I f u).1 N G ∧ (((beginH h I f u).1 = h ∧ ¬ (okI h.S I ∧ (getS h.S I).pc = f)) ∨ ∃ (j : Nat), j < n ∧ I = j ∧ (sv h.S j).pc = f ∧ (beginH h I f u).1.S = h.S.set j { sv h.S j with pc := u }) ∧ (beginH h I f u).1.ar = h.ar := by
  unfold beginH
  by_cases c : okI h.S I ∧ (getS h.S I).pc = f
  · rw [if_pos c]
    obtain ⟨⟨h0, h1⟩, hg⟩ := c
    obtain ⟨j, rfl⟩ := Int.eq_ofNat_of_zero_le h0
    have hj : j < h.S.length := by omega
    have hjn : j < n := by rw [← k.iv.sl]; exact hj
    rw [getS_nat hj] at hg ⊢
    simp only [Int.toNat_natCast]
    refine ⟨⟨?_, k.ops, k.dn, k.bset hjn (by show u = 2 → _; omega)⟩, .inr ⟨j, hjn, rfl, hg, rfl⟩, by trivial⟩
    rcases hfu with ⟨rfl, rfl⟩ | ⟨rfl, rfl⟩
    · exact k.iv.ask hjn hg rfl
    · exact k.iv.atFrontP hjn (k.iv.atFront hjn (.inl hg)) (.inr rfl)
  · rw [if_neg c]
    exact ⟨k, .inl ⟨rfl, c⟩, rfl⟩
theorem HOk.act (k : HOk nd n dl node h N G) (hN : N < 1000000) (K I : Int) : ∃ G', HOk nd n dl node (actH nd n dl node h K I).1 (N + 1) G' ∧ ActR n node h.S (actH nd n dl node h K I).1.S I (G 0) (G' 0) ∧ (actH nd n dl node h K I).1.ar.ops ≤ h.ar.ops + 1 ∧ (K ≠ 0 → (actH nd n dl node h K I).1.ar.ops = h.ar.ops) := by
  unfold actH
  by_cases c0 : K = 0
  · rw [if_pos c0]
    obtain ⟨G', k', hs, ho⟩ := k.stepI hN I
    refine ⟨G', k', ?_, ho, fun h => absurd c0 h⟩
    rcases hs with ⟨h1, h2, _⟩ | ⟨j, p', h1, h2, h3, s⟩
    · exact .inl ⟨by rw [h1], by rw [h2]⟩
    · refine .inr ⟨j, p', h1, h2, h3, s.row, s.stay, s.splice, s.gone, s.enter, ?_⟩
      rcases s.next with h | h | h | h | h | h | h
      · exact .inl h
      · exact .inr (.inl h)
      · exact .inr (.inr (.inl h))
      · exact .inr (.inr (.inr (.inl h)))
      · exact .inr (.inr (.inr (.inr (.inl h))))
      · exact .inr (.inr (.inr (.inr (.inr (.inl h)))))
      · exact .inr (.inr (.inr (.inr (.inr (.inr (.inl h))))))
  · rw [if_neg c0]
    have fin : ∀ f u : Int, (f = 0 ∧ u = 1) ∨ (f = 10 ∧ u = 11) → ∃ G', HOk nd n dl node (beginH h I f u).1 (N + 1) G' ∧ ActR n node h.S (beginH h I f u).1.S I (G 0) (G' 0) ∧ (beginH h I f u).1.ar.ops ≤ h.ar.ops + 1 ∧ (K ≠ 0 → (beginH h I f u).1.ar.ops = h.ar.ops) := fun f u hfu => by
      obtain ⟨k', hs, ha⟩ := k.beginI I f u hfu
      refine ⟨G, k'.le (by omega), ?_, by rw [ha]; exact Nat.le_succ _, fun _ => by rw [ha]⟩
      rcases hs with ⟨h1, _⟩ | ⟨j, h1, h2, h3, h4⟩
      · exact .inl ⟨by rw [h1], rfl⟩
      · refine .inr ⟨j, _, h1, h2, h4, ⟨fun h => ?_, fun _ _ => rfl, fun h => ?_, fun h => ?_, fun h => ?_, ?_⟩⟩
        · omega
        · omega
        · omega
        · intro _; exfalso; have : u = 10 := h; omega
        · rcases hfu with ⟨rfl, rfl⟩ | ⟨rfl, rfl⟩
          · exact .inr (.inr (.inr (.inr (.inr (.inr (.inr (.inl ⟨h3, rfl⟩)))))))
          · exact .inr (.inr (.inr (.inr (.inr (.inr (.inr (.inr ⟨h3, rfl⟩)))))))
    by_cases c1 : K = 1
    · rw [if_pos c1]; exact fin 0 1 (.inl ⟨rfl, rfl⟩)
    · rw [if_neg c1]
      by_cases c2 : K = 2
      · rw [if_pos c2]; exact fin 10 11 (.inr ⟨rfl, rfl⟩)
      · rw [if_neg c2]; exact ⟨G, k.le (by omega), .inl ⟨rfl, rfl⟩, Nat.le_succ _, fun _ => rfl⟩
/-- one holder at most -/
theorem HOk.hold1 (k : HOk nd n dl node h N G) {a b : Nat} (ha : a < n) (hb : b < n) (h1 : (sv h.S a).pc = 10) (h2 : (sv h.S b).pc = 10) : a = b := by
  have e1 := k.iv.atFront ha (.inl h1)
  have e2 := k.iv.atFront hb (.inl h2)
  rw [e1] at e2
  injection e2
end
def Ahead (Q : List Nat) (k u : Nat) : Prop := Q.idxOf k < Q.idxOf u
section
variable {Q r : List Nat} {k u x : Nat}
theorem ahead_append (hu : u ∈ Q) (h : Ahead (Q ++ r) k u) : Ahead Q k u := by
  unfold Ahead at *
  rw [List.idxOf_append, List.idxOf_append, if_pos hu] at h
  split at h
  · exact h
  · have := List.idxOf_lt_length_iff.2 hu
    omega
theorem ahead_mem (hu : u ∈ Q) (h : Ahead Q k u) : k ∈ Q := by
  unfold Ahead at h
  have := List.idxOf_lt_length_iff.2 hu
  exact List.idxOf_lt_length_iff.1 (by omega)
theorem ahead_cons (hx : x ∉ Q) (hu : u ∈ Q) (h : Ahead Q k u) : Ahead (x :: Q) k u := by
  have hk := ahead_mem hu h
  have e1 : x ≠ k := fun e => hx (e ▸ hk)
  have e2 : x ≠ u := fun e => hx (e ▸ hu)
  have f1 : (x == k) = false := by simpa using e1
  have f2 : (x == u) = false := by simpa using e2
  unfold Ahead at *
  rw [List.idxOf_cons, List.idxOf_cons, f1, f2]
  simp only [cond_false]
  omega
theorem ahead_head (hh : Q.head? = some x) (hu : u ≠ x) : Ahead Q x u := by
  cases Q with
  | nil => simp at hh
  | cons a l =>
    simp at hh
    subst hh
    have f2 : (a == u) = false := by simpa using Ne.symm hu
    unfold Ahead
    rw [List.idxOf_cons_self, List.idxOf_cons, f2]
    simp only [cond_false]
    omega
theorem ahead_irr : ¬ Ahead Q k k := Nat.lt_irrefl _
end
def PInv (n : Nat) (S : List Sp) (Q : List Nat) (P : Nat → Nat → Int) : Prop :=
  ∀ u, u < n → ∀ k, k < n → 0 ≤ P u k → u ∈ Q ∧ (sv S u).pc = 5 ∧ P u k ≤ 1 ∧ (Ahead Q k u → (sv S k).pc = 5 → P u k = 0)
def P1 (P : Nat → Nat → Int) (was now : Int) (u : Nat) : Nat → Nat → Int := fun a b => if (was = 4 ∧ now = 5) ∧ a = u then 0 else P a b
def P2 (P : Nat → Nat → Int) (was now : Int) (u : Nat) : Nat → Nat → Int := fun a b => if was < 10 ∧ now = 10 then if a = u then -1 else if b = u ∧ 0 ≤ P1 P was now u a b then P1 P was now u a b + 1 else P1 P was now u a b else P1 P was now u a b
section
variable {nd n N : Nat} {dl : Int} {node : Nat → Nat} {h h' : Hc} {G G' : Nat → List Nat} {P : Nat → Nat → Int}
theorem PInv.act (k : HOk nd n dl node h N G) (k' : HOk nd n dl node h' (N + 1) G') {j : Nat} {p' : Sp} (hj : j < n) (hS : h'.S = h.S.set j p') (s : StA n node (sv h.S j) p' j (G 0) (G' 0)) (hP : PInv n h.S (G 0) P) :
    PInv n h'.S (G' 0) (P2 P (sv h.S j).pc p'.pc j) ∧ ((sv h.S j).pc < 10 → p'.pc = 10 → ∀ a, a < n → a ≠ j → 0 ≤ P1 P (sv h.S j).pc p'.pc j a j → P1 P (sv h.S j).pc p'.pc j a j = 0) := by
  have hjj : sv h'.S j = p' := by rw [hS]; exact sv_eq (by rw [k.iv.sl]; exact hj)
  have hne : ∀ t, t ≠ j → sv h'.S t = sv h.S t := fun t e => by rw [hS]; exact sv_ne e
  have hnod' := k'.iv.nod 0
  by_cases c4 : (sv h.S j).pc = 4
  · obtain ⟨⟨r, hr⟩, he⟩ := s.splice c4
    have hjQ : j ∉ G 0 := fun hm => by
      rcases k.iv.inG hm with h1 | ⟨_, ⟨_, h1⟩ | ⟨h1, _⟩⟩
      · have := h1.2; omega
      · rcases h1 with h1 | h1 | h1
        · have := h1.1; omega
        · omega
        · omega
      · omega
    have hj5 : (sv h.S j).pc ≠ 5 := by omega
    by_cases c10 : p'.pc = 10
    · have hQ := he c10
      have hneg : ∀ a, a < n → ∀ b, b < n → ¬ 0 ≤ P a b := fun a ha b hb hab => by
        have := (hP a ha b hb hab).1
        rw [hQ] at this; simp at this
      refine ⟨fun u hu b hb hub => ?_, fun _ _ a ha _ hab => ?_⟩
      · have e1 : ∀ a b, P1 P (sv h.S j).pc p'.pc j a b = P a b := fun a b => by unfold P1; rw [if_neg (by omega)]
        unfold P2 at hub
        rw [if_pos ⟨by omega, c10⟩] at hub
        simp only [e1] at hub
        split at hub
        · omega
        · rw [if_neg (fun h => hneg u hu b hb h.2)] at hub
          exact absurd hub (hneg u hu b hb)
      · unfold P1 at hab
        rw [if_neg (by omega)] at hab
        exact absurd hab (hneg a ha j hj)
    · have h5 : p'.pc = 5 := by
        have h7 : ¬ p'.pc = 4 := fun h7 => by
          have := k'.iv.at234 hj (by rw [hjj]; exact .inr (.inr h7))
          have hm : j ∈ G' 0 := by rw [hr]; simp
          have := k'.iv.dj _ _ _ hm (mem_of_head this)
          omega
        rcases s.next with h | h | h | h | h | h | h | h | h <;> omega
      refine ⟨fun u hu b hb hub => ?_, fun _ h => absurd h c10⟩
      have e2 : P2 P (sv h.S j).pc p'.pc j u b = if u = j then 0 else P u b := by
        unfold P2 P1
        rw [if_neg (by omega)]
        by_cases e : u = j
        · rw [if_pos ⟨⟨c4, h5⟩, e⟩, if_pos e]
        · rw [if_neg (fun h => e h.2), if_neg e]
      rw [e2] at hub ⊢
      by_cases e : u = j
      · rw [if_pos e, e, hjj]
        exact ⟨by rw [hr]; simp, h5, by omega, fun _ _ => rfl⟩
      · rw [if_neg e] at hub ⊢
        obtain ⟨h1, h2, h3, h6⟩ := hP u hu b hb hub
        rw [hne u e]
        refine ⟨by rw [hr]; exact List.mem_append_left _ h1, h2, h3, fun ha hb5 => ?_⟩
        rw [hr] at ha
        have ha' := ahead_append h1 ha
        have e3 : b ≠ j := fun e3 => hjQ (e3 ▸ ahead_mem h1 ha')
        rw [hne b e3] at hb5
        exact h6 ha' hb5
  · have e1 : ∀ a b, P1 P (sv h.S j).pc p'.pc j a b = P a b := fun a b => by unfold P1; rw [if_neg (fun h => c4 h.1.1)]
    by_cases c11 : (sv h.S j).pc = 11
    · obtain ⟨hf, hQ⟩ := s.gone c11
      have hnx : ¬ p'.pc = 10 := by have := s.next; omega
      refine ⟨fun u hu b hb hub => ?_, fun h => by omega⟩
      have e2 : P2 P (sv h.S j).pc p'.pc j u b = P u b := by unfold P2; rw [if_neg (fun h => hnx h.2), e1]
      rw [e2] at hub ⊢
      obtain ⟨h1, h2, h3, h6⟩ := hP u hu b hb hub
      have e : u ≠ j := fun e => by rw [e, c11] at h2; omega
      have hjT : j ∉ (G 0).tail := head_not_tail (k.iv.nod 0) hf
      have huT : u ∈ (G 0).tail := by
        rcases mem_ht h1 with h7 | h7
        · rw [hf] at h7; injection h7 with h7; exact absurd h7.symm e
        · exact h7
      rw [hne u e, hQ]
      refine ⟨huT, h2, h3, fun ha hb5 => ?_⟩
      have hbT := ahead_mem huT ha
      have e3 : b ≠ j := fun e3 => hjT (e3 ▸ hbT)
      rw [hne b e3] at hb5
      refine h6 ?_ hb5
      cases hg : G 0 with
      | nil => rw [hg] at hf; simp at hf
      | cons a l =>
        rw [hg] at hf hjT huT ha
        simp at hf
        subst hf
        exact ahead_cons hjT huT ha
    · have hQ := s.stay c4 c11
      by_cases c10 : (sv h.S j).pc < 10 ∧ p'.pc = 10
      · have hf : (G 0).head? = some j := by
          rcases s.enter c10.2 (by omega) with h1 | h1
          · exact absurd h1 c4
          · exact h1.2
        have h5 : (sv h.S j).pc = 5 := by
          rcases s.enter c10.2 (by omega) with h1 | h1
          · exact absurd h1 c4
          · exact h1.1
        have hz : ∀ a, a < n → a ≠ j → 0 ≤ P a j → P a j = 0 := fun a ha e hab => (hP a ha j hj hab).2.2.2 (ahead_head hf e) h5
        refine ⟨fun u hu b hb hub => ?_, fun _ _ a ha e hab => by rw [e1] at hab ⊢; exact hz a ha e hab⟩
        by_cases e : u = j
        · unfold P2 at hub
          rw [if_pos c10, if_pos e] at hub
          omega
        · have e2 : P2 P (sv h.S j).pc p'.pc j u b = if b = j ∧ 0 ≤ P u b then P u b + 1 else P u b := by
            unfold P2; rw [if_pos c10, if_neg e, e1]
          rw [e2] at hub ⊢
          rw [hne u e, hQ]
          by_cases e3 : b = j ∧ 0 ≤ P u b
          · rw [if_pos e3] at hub ⊢
            obtain ⟨rfl, h0⟩ := e3
            obtain ⟨h1, h2, h3, h6⟩ := hP u hu b hb h0
            have := hz u hu e h0
            refine ⟨h1, h2, by omega, fun _ hb5 => ?_⟩
            rw [hjj, c10.2] at hb5
            omega
          · rw [if_neg e3] at hub ⊢
            obtain ⟨h1, h2, h3, h6⟩ := hP u hu b hb hub
            refine ⟨h1, h2, h3, fun ha hb5 => ?_⟩
            have e4 : b ≠ j := fun e4 => e3 ⟨e4, hub⟩
            rw [hne b e4] at hb5
            exact h6 ha hb5
      · refine ⟨fun u hu b hb hub => ?_, fun h1 h2 => absurd ⟨h1, h2⟩ c10⟩
        have e2 : P2 P (sv h.S j).pc p'.pc j u b = P u b := by unfold P2; rw [if_neg c10, e1]
        rw [e2] at hub ⊢
        obtain ⟨h1, h2, h3, h6⟩ := hP u hu b hb hub
        rw [hQ]
        have hp5 : ∀ t, (sv h'.S t).pc = 5 → t ∈ G 0 → (sv h.S t).pc = 5 := fun t h7 ht => by
          by_cases e : t = j
          · subst e
            rw [hjj] at h7
            have := k.iv.inG ht
            have := s.next
            omega
          · rw [hne t e] at h7; exact h7
        refine ⟨h1, ?_, h3, fun ha hb5 => h6 ha (hp5 b hb5 (ahead_mem h1 ha))⟩
        by_cases e : u = j
        · subst e
          rw [hjj]
          have := s.next
          have : ¬ p'.pc = 10 := fun h => c10 ⟨by omega, h⟩
          omega
        · rw [hne u e]; exact h2
end
end Go.Proofs.YtkdaiomjbkpedaaGreat
end
