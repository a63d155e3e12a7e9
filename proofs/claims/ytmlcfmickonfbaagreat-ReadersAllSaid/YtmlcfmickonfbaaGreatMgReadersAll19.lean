/- Joined: Sm7r, Sm8r, Sm7n, Sm8n, Sm9n, Sm9r, Xq1. -/
import Derived.WalkKit
import Derived.WalkSpells
import Derived.ProofKit
import Derived.Below
import Derived.Test.YtmlcfmickonfbaaGreatMgReadersAll12
import Derived.Test.YtmlcfmickonfbaaGreatMgReadersAll16
import Derived.Test.YtmlcfmickonfbaaGreatMgReadersAll18
section
set_option linter.unusedVariables false
set_option linter.unusedSimpArgs false
/- Layer 37 (readers): what a step does, over the cohort lock. (printed by gen_sm67.py) -/
namespace Go.Proofs.YtmlcfmickonfbaaGreat
open Go.RowKit

/-- behind what a step does: where the thread comes -/
def NextOk (ty : TypeId) (B BC : Nat → Prop) (w : World) (a g : Nat) (X : SmX) (c : CoC) (P T : List Int) (r : Co × Dr × Int) (U : List Sp) (e : Ending) (w' : World) : Prop :=
  e = .returned (.int .i64 r.2.2) ∧ SmIs ty B BC w' a g X c P T r.1 r.2.1 U ∧ Turns (SmS a g X) w w'
section
variable {ty : TypeId}
variable {B BC : Nat → Prop} {w w' w0 : World} {a g : Nat} {X : SmX} {c : CoC} {P T : List Int} {st st' : Co} {d d' : Dr} {U : List Sp} {s' : Ar} {BB : Int}
theorem SmIs.ltsA (h : SmIs ty B BC w a g X c P T st d U) : ∀ r ∈ SmS a g X, r < w.heap.size := by
  intro r hr
  unfold SmS at hr
  simp only [List.mem_cons] at hr
  rcases hr with rfl | rfl | hr
  · exact h.sp.lt
  · exact h.gd.dr.lt
  · exact h.co.lts r hr
theorem SmIs.nodeA (h : SmIs ty B BC w a g X c P T st d U) {n : Nat} (hn : n < T.length) : (c.node n) < (leavesL P).length ∧ (nodesTo P T T.length)[n]? = some ((c.node n : Nat) : Int) := by
  have := h.co.fx.node (i := n) (by rw [h.nT.1]; exact hn)
  rw [h.nT.2.1] at this
  exact this
theorem SmIs.drw (h : SmIs ty B BC w a g X c P T st d U) : SmIs ty B BC w.drew a g X c P T st d U := h.below (Below.refl _ _).drew
end
section
variable {B BC : Nat → Prop} {w w' w0 : World} {a g : Nat} {X : SmX} {c : CoC} {P T : List Int} {st st' : Co} {d d' : Dr} {U : List Sp} {s' : Ar} {BB : Int}
set_option maxRecDepth 100000 in
set_option maxHeartbeats 2000000 in
theorem reads1_r (h : SmIs 59 B BC w a g X c P T st d U) {nd : Nat} (hnd : nd < (leavesL P).length) (ho : st.s.ops + 1 ≤ 1000000000000) : Calls Tryz.prog 18 #[.pointer (some ⟨X.l, 0, none⟩), .int .i64 1, .int .i64 nd] w (NextOk 59 B BC w a g X c P T (onA st (addA st.s (2 * (nd : Int) + 1) 1), d, 2) U) := by
  have hnd := Lib.hid hnd
  have H := Lib.hid h
  clear h
  go_enter Tryz.func18, Tryz.ntmps18
  have K0 := H
  have T0 := Lib.hid (Turns.refl (SmS a g X) w)
  have d2 := K0.out.cs.2.2.1
  go_wp2_with fail
  refine (gaEnter K0.out.gd.ga K0.out.gd.ar nd hnd.out K0.out.gd.n32 ho).mono ?_
  rintro en w1 ⟨rfl, a2, t2⟩
  have K1 := Lib.hid (K0.out.arT t2 a2)
  have T1 := Lib.hid (T0.out.trans (smS_ag t2))
  clear a2 t2
  go_wp2
  go_ret
  exact ⟨rfl, K1.out, T1.out⟩
set_option maxRecDepth 100000 in
set_option maxHeartbeats 2000000 in
theorem reads11_r (h : SmIs 59 B BC w a g X c P T st d U) {nd : Nat} (hnd : nd < (leavesL P).length) (ho : st.s.ops + 1 ≤ 1000000000000) : Calls Tryz.prog 18 #[.pointer (some ⟨X.l, 0, none⟩), .int .i64 11, .int .i64 nd] w (NextOk 59 B BC w a g X c P T (onA st (addA st.s (2 * (nd : Int) + 1 + 1) 1), d, 0) U) := by
  have hnd := Lib.hid hnd
  have H := Lib.hid h
  clear h
  go_enter Tryz.func18, Tryz.ntmps18
  have K0 := H
  have T0 := Lib.hid (Turns.refl (SmS a g X) w)
  have d2 := K0.out.cs.2.2.1
  go_wp2_with fail
  refine (gaExit K0.out.gd.ga K0.out.gd.ar nd hnd.out K0.out.gd.n32 ho).mono ?_
  rintro en w1 ⟨rfl, a2, t2⟩
  have K1 := Lib.hid (K0.out.arT t2 a2)
  have T1 := Lib.hid (T0.out.trans (smS_ag t2))
  clear a2 t2
  go_wp2
  go_ret
  exact ⟨rfl, K1.out, T1.out⟩
set_option maxRecDepth 100000 in
set_option maxHeartbeats 2000000 in
theorem reads2_r (h : SmIs 59 B BC w a g X c P T st d U) (nd : Nat) (ho : st.s.ops + 1 ≤ 1000000000000) : Calls Tryz.prog 18 #[.pointer (some ⟨X.l, 0, none⟩), .int .i64 2, .int .i64 nd] w (NextOk 59 B BC w a g X c P T (onA st (loadA st.s (nuFl (leavesL P).length)), d, if ldW st.s.W (nuFl (leavesL P).length) = 0 then 10 else 2) U) := by
  have H := Lib.hid h
  clear h
  obtain ⟨q, hq⟩ : ∃ q, q = ldW st.s.W (nuFl (leavesL P).length) := ⟨_, rfl⟩
  rw [← hq]
  have HQ := Lib.hid hq
  clear hq
  have HO0 := Lib.hid (load_any (H.out.drw).gd.ar (nuFl (leavesL P).length) ho)
  rw [← HQ.out] at HO0
  obtain ⟨v, hv⟩ : ∃ v : Int, v = if q = 0 then 10 else 2 := ⟨_, rfl⟩
  rw [← hv]
  have HV := Lib.hid hv
  clear hv
  cases hz : (q == 0)
  all_goals
    go_enter Tryz.func18, Tryz.ntmps18
    have K0d := Lib.hid H.out.drw
    have T0 := Lib.hid (Turns.refl (SmS a g X) w)
    go_wp2_with fail
    first
    | (go_region_held3 (fun W => W.cell? ⟨X.l, 0, none⟩ = some (.pointer (some ⟨a, 0, none⟩)) ∧ W.cell? ⟨X.l, 4, none⟩ = some (.int .i64 (2 * ((leavesL P).length : Int) + 1)))
        (first | exact ⟨K0d.out.cs.1, K0d.out.cs.2.2.2.2.1⟩ | exact ⟨K1.out.cs.1, K1.out.cs.2.2.2.2.1⟩)
        (first
          | (go_at_call 34; go_loud (refine HO0.out.mono ?_); rintro en w1 ⟨rfl, a3, t3⟩; have K1 := Lib.hid (K0d.out.arT t3 a3); have T1 := Lib.hid (T0.out.drew.trans (smS_ag t3)); clear a3 t3)))
    | fail "held"
  all_goals
    first
    | (go_wp2
       go_ret
       rw [HV.out, if_pos (by simpa using hz)]
       exact ⟨rfl, K1.out, T1.out⟩)
    | (go_wp2
       go_ret
       rw [HV.out, if_neg (by simpa using hz)]
       exact ⟨rfl, K1.out, T1.out⟩)
set_option maxRecDepth 100000 in
set_option maxHeartbeats 2000000 in
theorem looks5_r (h : SmIs 59 B BC w a g X c P T st d U) (hN : 1 ≤ (leavesL P).length) (ho : st.s.ops + 1 ≤ 1000000000000) : Calls Tryz.prog 41 #[.pointer (some ⟨X.l, 0, none⟩), .int .i64 5] w (NextOk 59 B BC w a g X c P T (onA st (storeA st.s (nuFl (leavesL P).length) 0), drBeg d (leavesL P).length false, 6) U) := by
  have H := Lib.hid h
  clear h
  go_enter Tryz.func41, Tryz.ntmps41
  have K0 := H
  have T0 := Lib.hid (Turns.refl (SmS a g X) w)
  have K0d := Lib.hid K0.out.drw
  have HO0 := Lib.hid (store_any (K0d.out).gd.ar (nuFl (leavesL P).length) (0) ho)
  go_wp2_with fail
  go_region_held3 (fun W => W.cell? ⟨X.l, 0, none⟩ = some (.pointer (some ⟨a, 0, none⟩)) ∧ W.cell? ⟨X.l, 4, none⟩ = some (.int .i64 (2 * ((leavesL P).length : Int) + 1)))
    (first | exact ⟨K0d.out.cs.1, K0d.out.cs.2.2.2.2.1⟩ | exact ⟨K1.out.cs.1, K1.out.cs.2.2.2.2.1⟩)
    (first
      | (go_at_call 39; go_loud (refine HO0.out.mono ?_); rintro en w1 ⟨rfl, a3, t3⟩; have K1 := Lib.hid (K0d.out.arT t3 a3); have T1 := Lib.hid (T0.out.drew.trans (smS_ag t3)); clear a3 t3))
  have K1d := Lib.hid K1.out.drw
  have HB1 := Lib.hid (drBegin (K1d.out).gd hN false)
  have HN1 := Lib.hid (nodesFQ _ X.b P T (K1d.out).tb.f)
  go_wp2_with fail
  go_region_held3 (fun W => W.cell? ⟨X.l, 3, none⟩ = some (.pointer (some ⟨X.dd, 0, none⟩)) ∧ W.cell? ⟨X.l, 1, none⟩ = some (.pointer (some ⟨X.b, 0, none⟩)))
    (first | exact ⟨K1d.out.cs.2.2.2.1, K1d.out.cs.2.1⟩ | exact ⟨K2.out.cs.2.2.2.1, K2.out.cs.2.1⟩)
    (first
      | (go_at_call 25; go_loud (refine HN1.out.mono ?_); rintro en wn ⟨rfl, rfl⟩)
      | (go_at_call 62; go_loud (refine HB1.out.mono ?_); rintro en w2 ⟨rfl, k4, t4⟩; have K2 := Lib.hid (K1d.out.gdT t4 k4); have T2 := Lib.hid (T1.out.drew.trans (smS_gd t4)); clear k4 t4))
  go_wp2
  go_ret
  exact ⟨rfl, K2.out, T2.out⟩
set_option maxRecDepth 100000 in
set_option maxHeartbeats 2000000 in
theorem looks8_r (h : SmIs 59 B BC w a g X c P T st d U) (hN : 1 ≤ (leavesL P).length) (ho : st.s.ops + 1 ≤ 1000000000000) : Calls Tryz.prog 41 #[.pointer (some ⟨X.l, 0, none⟩), .int .i64 8] w (NextOk 59 B BC w a g X c P T (onA st (storeA st.s (nuFl (leavesL P).length) 1), drBeg d (leavesL P).length true, 9) U) := by
  have H := Lib.hid h
  clear h
  go_enter Tryz.func41, Tryz.ntmps41
  have K0 := H
  have T0 := Lib.hid (Turns.refl (SmS a g X) w)
  have K0d := Lib.hid K0.out.drw
  have HO0 := Lib.hid (store_any (K0d.out).gd.ar (nuFl (leavesL P).length) (1) ho)
  go_wp2_with fail
  go_region_held3 (fun W => W.cell? ⟨X.l, 0, none⟩ = some (.pointer (some ⟨a, 0, none⟩)) ∧ W.cell? ⟨X.l, 4, none⟩ = some (.int .i64 (2 * ((leavesL P).length : Int) + 1)))
    (first | exact ⟨K0d.out.cs.1, K0d.out.cs.2.2.2.2.1⟩ | exact ⟨K1.out.cs.1, K1.out.cs.2.2.2.2.1⟩)
    (first
      | (go_at_call 39; go_loud (refine HO0.out.mono ?_); rintro en w1 ⟨rfl, a3, t3⟩; have K1 := Lib.hid (K0d.out.arT t3 a3); have T1 := Lib.hid (T0.out.drew.trans (smS_ag t3)); clear a3 t3))
  have K1d := Lib.hid K1.out.drw
  have HB1 := Lib.hid (drBegin (K1d.out).gd hN true)
  have HN1 := Lib.hid (nodesFQ _ X.b P T (K1d.out).tb.f)
  go_wp2_with fail
  go_region_held3 (fun W => W.cell? ⟨X.l, 3, none⟩ = some (.pointer (some ⟨X.dd, 0, none⟩)) ∧ W.cell? ⟨X.l, 1, none⟩ = some (.pointer (some ⟨X.b, 0, none⟩)))
    (first | exact ⟨K1d.out.cs.2.2.2.1, K1d.out.cs.2.1⟩ | exact ⟨K2.out.cs.2.2.2.1, K2.out.cs.2.1⟩)
    (first
      | (go_at_call 25; go_loud (refine HN1.out.mono ?_); rintro en wn ⟨rfl, rfl⟩)
      | (go_at_call 62; go_loud (refine HB1.out.mono ?_); rintro en w2 ⟨rfl, k4, t4⟩; have K2 := Lib.hid (K1d.out.gdT t4 k4); have T2 := Lib.hid (T1.out.drew.trans (smS_gd t4)); clear k4 t4))
  go_wp2
  go_ret
  exact ⟨rfl, K2.out, T2.out⟩
set_option maxRecDepth 100000 in
set_option maxHeartbeats 2000000 in
theorem looks6_r (h : SmIs 59 B BC w a g X c P T st d U) (hb : d.busy = true → d.at_ < (leavesL P).length) (ho : st.s.ops + 1 ≤ 1000000000000) : Calls Tryz.prog 41 #[.pointer (some ⟨X.l, 0, none⟩), .int .i64 6] w (NextOk 59 B BC w a g X c P T (onA st (drStep st.s d).1, (drStep st.s d).2.1, if (drStep st.s d).2.2 = false then 6 else if (6 : Int) = 6 then 8 else if (drStep st.s d).2.1.clear = true then 10 else 5) U) := by
  obtain ⟨r, hr⟩ : ∃ r, r = drStep st.s d := ⟨_, rfl⟩
  have HD0 := drStepW h.gd hb ho
  rw [← hr] at HD0 ⊢
  obtain ⟨s1, d1, q⟩ := r
  simp only at HD0 ⊢
  have HD := Lib.hid HD0
  have H := Lib.hid h
  clear h hr hb HD0
  cases q
  · go_enter Tryz.func41, Tryz.ntmps41
    have d3 := H.out.cs.2.2.2.1
    go_wp2_with fail
    refine HD.out.mono ?_
    rintro en w1 ⟨rfl, k4, t4⟩
    have K1 := Lib.hid (H.out.gdT t4 k4)
    have T1 := Lib.hid (smS_gd (X := X) t4)
    clear k4 t4
    go_wp2
    go_ret
    exact ⟨rfl, K1.out, T1.out⟩
  · go_enter Tryz.func41, Tryz.ntmps41
    have d3 := H.out.cs.2.2.2.1
    go_wp2_with fail
    refine HD.out.mono ?_
    rintro en w1 ⟨rfl, k4, t4⟩
    have K1 := Lib.hid (H.out.gdT t4 k4)
    have T1 := Lib.hid (smS_gd (X := X) t4)
    clear k4 t4
    go_wp2
    go_ret
    exact ⟨rfl, K1.out, T1.out⟩
set_option maxRecDepth 100000 in
set_option maxHeartbeats 2000000 in
theorem looks9_r (h : SmIs 59 B BC w a g X c P T st d U) (hb : d.busy = true → d.at_ < (leavesL P).length) (ho : st.s.ops + 1 ≤ 1000000000000) : Calls Tryz.prog 41 #[.pointer (some ⟨X.l, 0, none⟩), .int .i64 9] w (NextOk 59 B BC w a g X c P T (onA st (drStep st.s d).1, (drStep st.s d).2.1, if (drStep st.s d).2.2 = false then 9 else if (9 : Int) = 6 then 8 else if (drStep st.s d).2.1.clear = true then 10 else 5) U) := by
  obtain ⟨r, hr⟩ : ∃ r, r = drStep st.s d := ⟨_, rfl⟩
  have HD0 := drStepW h.gd hb ho
  rw [← hr] at HD0 ⊢
  obtain ⟨s1, d1, q⟩ := r
  simp only at HD0 ⊢
  have HD := Lib.hid HD0
  have H := Lib.hid h
  clear h hr hb HD0
  cases q
  · go_enter Tryz.func41, Tryz.ntmps41
    have d3 := H.out.cs.2.2.2.1
    go_wp2_with fail
    refine HD.out.mono ?_
    rintro en w1 ⟨rfl, k4, t4⟩
    have K1 := Lib.hid (H.out.gdT t4 k4)
    have T1 := Lib.hid (smS_gd (X := X) t4)
    clear k4 t4
    go_wp2
    go_ret
    exact ⟨rfl, K1.out, T1.out⟩
  · cases hc : d1.clear
    all_goals
      go_enter Tryz.func41, Tryz.ntmps41
      have d3 := H.out.cs.2.2.2.1
      go_wp2_with fail
      refine HD.out.mono ?_
      rintro en w1 ⟨rfl, k4, t4⟩
      have K1 := Lib.hid (H.out.gdT t4 k4)
      have T1 := Lib.hid (smS_gd (X := X) t4)
      have d4 := K1.out.cs.2.2.2.1
      clear k4 t4
      have HCl := Lib.hid (drClear K1.out.gd)
      rw [hc] at HCl
      go_wp2_with fail
      refine HCl.out.mono ?_
      rintro en w2 ⟨rfl, rfl⟩
      go_wp2
      go_ret
      unfold NextOk
      simp only [hc]
      exact ⟨rfl, K1.out, T1.out⟩
set_option maxRecDepth 100000 in
set_option maxHeartbeats 2000000 in
theorem writes7_r (h : SmIs 59 B BC w a g X c P T st d U) (n : Nat) (hn : n < T.length) (C : CoPre BB X.x c st) (ho : st.s.ops + 1 ≤ 1000000000000) : Calls Tryz.prog 20 #[.pointer (some ⟨X.l, 0, none⟩), .int .i64 n, .int .i64 7] w (NextOk 59 B BC w a g X c P T (coStep c st n, d, if cameK (sv st.T n) (sv (coStep c st n).T n) then 8 else 7) U) := by
  have hnx : n < X.x.n := by rw [h.nT.1]; exact hn
  have HS0 := stepCo h.co C n hnx
  obtain ⟨q, hq⟩ : ∃ q, q = cameK (sv st.T n) (sv (coStep c st n).T n) := ⟨_, rfl⟩
  rw [← hq] at HS0 ⊢
  have HS := Lib.hid HS0
  have l5 := h.cs.2.2.2.2.2.1
  have H := Lib.hid h
  clear h hq HS0
  cases q
  all_goals
    go_enter Tryz.func20, Tryz.ntmps20
    go_wp2_with fail
    refine HS.out.mono ?_
    rintro en w1 ⟨rfl, k3, t3⟩
    have K1 := Lib.hid (H.out.coT t3 k3)
    have T1 := Lib.hid (smS_co (X := X) t3)
    clear k3 t3
    go_wp2
    go_ret
    exact ⟨rfl, K1.out, T1.out⟩
set_option maxRecDepth 100000 in
set_option maxHeartbeats 2000000 in
theorem writes13_r (h : SmIs 59 B BC w a g X c P T st d U) (n : Nat) (hn : n < T.length) (C : CoPre BB X.x c st) (ho : st.s.ops + 1 ≤ 1000000000000) : Calls Tryz.prog 20 #[.pointer (some ⟨X.l, 0, none⟩), .int .i64 n, .int .i64 13] w (NextOk 59 B BC w a g X c P T (coStep c st n, d, if cameK (sv st.T n) (sv (coStep c st n).T n) then 0 else 13) U) := by
  have hnx : n < X.x.n := by rw [h.nT.1]; exact hn
  have HS0 := stepCo h.co C n hnx
  obtain ⟨q, hq⟩ : ∃ q, q = cameK (sv st.T n) (sv (coStep c st n).T n) := ⟨_, rfl⟩
  rw [← hq] at HS0 ⊢
  have HS := Lib.hid HS0
  have l5 := h.cs.2.2.2.2.2.1
  have H := Lib.hid h
  clear h hq HS0
  cases q
  all_goals
    go_enter Tryz.func20, Tryz.ntmps20
    go_wp2_with fail
    refine HS.out.mono ?_
    rintro en w1 ⟨rfl, k3, t3⟩
    have K1 := Lib.hid (H.out.coT t3 k3)
    have T1 := Lib.hid (smS_co (X := X) t3)
    clear k3 t3
    go_wp2
    go_ret
    exact ⟨rfl, K1.out, T1.out⟩
set_option maxRecDepth 100000 in
set_option maxHeartbeats 2000000 in
theorem writes12_r (h : SmIs 59 B BC w a g X c P T st d U) (n : Nat) (hn : n < T.length) (ho : st.s.ops + 1 ≤ 1000000000000) : Calls Tryz.prog 20 #[.pointer (some ⟨X.l, 0, none⟩), .int .i64 n, .int .i64 12] w (NextOk 59 B BC w a g X c P T (coLeave (onA st (storeA st.s (nuFl (leavesL P).length) 0)) n, d, 13) U) := by
  have hnx : n < X.x.n := by rw [h.nT.1]; exact hn
  have H := Lib.hid h
  clear h
  go_enter Tryz.func20, Tryz.ntmps20
  have K0 := H
  have T0 := Lib.hid (Turns.refl (SmS a g X) w)
  have K0d := Lib.hid K0.out.drw
  have HO0 := Lib.hid (store_any (K0d.out).gd.ar (nuFl (leavesL P).length) (0) ho)
  go_wp2_with fail
  go_region_held3 (fun W => W.cell? ⟨X.l, 0, none⟩ = some (.pointer (some ⟨a, 0, none⟩)) ∧ W.cell? ⟨X.l, 4, none⟩ = some (.int .i64 (2 * ((leavesL P).length : Int) + 1)))
    (first | exact ⟨K0d.out.cs.1, K0d.out.cs.2.2.2.2.1⟩ | exact ⟨K1.out.cs.1, K1.out.cs.2.2.2.2.1⟩)
    (first
      | (go_at_call 39; go_loud (refine HO0.out.mono ?_); rintro en w1 ⟨rfl, a3, t3⟩; have K1 := Lib.hid (K0d.out.arT t3 a3); have T1 := Lib.hid (T0.out.drew.trans (smS_ag t3)); clear a3 t3))
  have l5 := K1.out.cs.2.2.2.2.2.1
  go_wp2_with fail
  refine (leaveCo K1.out.co n hnx).mono ?_
  rintro en w2 ⟨rfl, k3, t3⟩
  have K2 := Lib.hid (K1.out.coT t3 k3)
  have T2 := Lib.hid (T1.out.trans (smS_co t3))
  clear k3 t3 l5
  go_wp2
  go_ret
  exact ⟨rfl, K2.out, T2.out⟩
set_option maxRecDepth 100000 in
theorem writes5_r (h : SmIs 59 B BC w a g X c P T st d U) (hN : 1 ≤ (leavesL P).length) (n : Nat) (ho : st.s.ops + 1 ≤ 1000000000000) : Calls Tryz.prog 20 #[.pointer (some ⟨X.l, 0, none⟩), .int .i64 n, .int .i64 5] w (NextOk 59 B BC w a g X c P T (onA st (storeA st.s (nuFl (leavesL P).length) 0), drBeg d (leavesL P).length false, 6) U) := by
  have HL0 := looks5_r h hN ho
  obtain ⟨r, hr⟩ : ∃ r : Co × Dr × Int, r = (onA st (storeA st.s (nuFl (leavesL P).length) 0), drBeg d (leavesL P).length false, 6) := ⟨_, rfl⟩
  rw [← hr] at HL0 ⊢
  have HL := Lib.hid HL0
  clear hr HL0 h
  go_enter Tryz.func20, Tryz.ntmps20
  go_wp2_with fail
  refine HL.out.mono ?_
  rintro en w1 ⟨rfl, k3, t3⟩
  have HK := Lib.hid (And.intro k3 t3)
  clear k3 t3
  go_wp2
  go_ret
  exact ⟨rfl, HK.out.1, HK.out.2⟩
set_option maxRecDepth 100000 in
theorem writes8_r (h : SmIs 59 B BC w a g X c P T st d U) (hN : 1 ≤ (leavesL P).length) (n : Nat) (ho : st.s.ops + 1 ≤ 1000000000000) : Calls Tryz.prog 20 #[.pointer (some ⟨X.l, 0, none⟩), .int .i64 n, .int .i64 8] w (NextOk 59 B BC w a g X c P T (onA st (storeA st.s (nuFl (leavesL P).length) 1), drBeg d (leavesL P).length true, 9) U) := by
  have HL0 := looks8_r h hN ho
  obtain ⟨r, hr⟩ : ∃ r : Co × Dr × Int, r = (onA st (storeA st.s (nuFl (leavesL P).length) 1), drBeg d (leavesL P).length true, 9) := ⟨_, rfl⟩
  rw [← hr] at HL0 ⊢
  have HL := Lib.hid HL0
  clear hr HL0 h
  go_enter Tryz.func20, Tryz.ntmps20
  go_wp2_with fail
  refine HL.out.mono ?_
  rintro en w1 ⟨rfl, k3, t3⟩
  have HK := Lib.hid (And.intro k3 t3)
  clear k3 t3
  go_wp2
  go_ret
  exact ⟨rfl, HK.out.1, HK.out.2⟩
set_option maxRecDepth 100000 in
theorem writes6_r (h : SmIs 59 B BC w a g X c P T st d U) (hb : d.busy = true → d.at_ < (leavesL P).length) (n : Nat) (ho : st.s.ops + 1 ≤ 1000000000000) : Calls Tryz.prog 20 #[.pointer (some ⟨X.l, 0, none⟩), .int .i64 n, .int .i64 6] w (NextOk 59 B BC w a g X c P T (onA st (drStep st.s d).1, (drStep st.s d).2.1, if (drStep st.s d).2.2 = false then 6 else if (6 : Int) = 6 then 8 else if (drStep st.s d).2.1.clear = true then 10 else 5) U) := by
  have HL0 := looks6_r h hb ho
  obtain ⟨r, hr⟩ : ∃ r : Co × Dr × Int, r = (onA st (drStep st.s d).1, (drStep st.s d).2.1, if (drStep st.s d).2.2 = false then 6 else if (6 : Int) = 6 then 8 else if (drStep st.s d).2.1.clear = true then 10 else 5) := ⟨_, rfl⟩
  rw [← hr] at HL0 ⊢
  have HL := Lib.hid HL0
  clear hr HL0 h
  go_enter Tryz.func20, Tryz.ntmps20
  go_wp2_with fail
  refine HL.out.mono ?_
  rintro en w1 ⟨rfl, k3, t3⟩
  have HK := Lib.hid (And.intro k3 t3)
  clear k3 t3
  go_wp2
  go_ret
  exact ⟨rfl, HK.out.1, HK.out.2⟩
set_option maxRecDepth 100000 in
theorem writes9_r (h : SmIs 59 B BC w a g X c P T st d U) (hb : d.busy = true → d.at_ < (leavesL P).length) (n : Nat) (ho : st.s.ops + 1 ≤ 1000000000000) : Calls Tryz.prog 20 #[.pointer (some ⟨X.l, 0, none⟩), .int .i64 n, .int .i64 9] w (NextOk 59 B BC w a g X c P T (onA st (drStep st.s d).1, (drStep st.s d).2.1, if (drStep st.s d).2.2 = false then 9 else if (9 : Int) = 6 then 8 else if (drStep st.s d).2.1.clear = true then 10 else 5) U) := by
  have HL0 := looks9_r h hb ho
  obtain ⟨r, hr⟩ : ∃ r : Co × Dr × Int, r = (onA st (drStep st.s d).1, (drStep st.s d).2.1, if (drStep st.s d).2.2 = false then 9 else if (9 : Int) = 6 then 8 else if (drStep st.s d).2.1.clear = true then 10 else 5) := ⟨_, rfl⟩
  rw [← hr] at HL0 ⊢
  have HL := Lib.hid HL0
  clear hr HL0 h
  go_enter Tryz.func20, Tryz.ntmps20
  go_wp2_with fail
  refine HL.out.mono ?_
  rintro en w1 ⟨rfl, k3, t3⟩
  have HK := Lib.hid (And.intro k3 t3)
  clear k3 t3
  go_wp2
  go_ret
  exact ⟨rfl, HK.out.1, HK.out.2⟩
end
end Go.Proofs.YtmlcfmickonfbaaGreat
end
section
set_option linter.unusedVariables false
set_option linter.unusedSimpArgs false
/- Layer 37 (readers): Step, over the cohort lock. (printed by gen_sm67.py) -/
namespace Go.Proofs.YtmlcfmickonfbaaGreat
open Go.RowKit

section
variable {B BC : Nat → Prop} {w w' w0 : World} {a g : Nat} {X : SmX} {c : CoC} {P T : List Int} {st st' : Co} {d d' : Dr} {U : List Sp} {s' : Ar} {BB : Int}
theorem step_r0 (h : SmIs 59 B BC w a g X c P T st d U) (n : Nat) (hn : n < T.length) (hc : (sv U n).pc = 0 ∨ (sv U n).pc = 10) : Calls Tryz.prog 8 #[.pointer (some ⟨X.l, 0, none⟩), .int .i64 n] w (SmAct 59 B BC w a g X c P T (rsStep c (leavesL P).length ⟨st, d, U⟩ n)) := by
  have hfp := field_pc
  have HS0 := spot_r h n
  have hp := h.thr hn
  have hg : getS U (n : Int) = sv U n := by
    unfold getS sv
    rw [if_pos ⟨by omega, by rw [h.lU]; omega⟩, Int.toNat_natCast]
  rw [hg] at HS0
  have H := Lib.hid h
  have t2 : ¬ (n : Int) < 0 := by omega
  have hn32 := h.nT.2.2.1
  have hx' : rsStep c (leavesL P).length ⟨st, d, U⟩ n = ⟨st, d, U⟩ := by
    unfold rsStep
    rw [if_pos hc]
  obtain ⟨p, hpp⟩ : ∃ p, p = sv U n := ⟨_, rfl⟩
  rw [← hpp] at hc HS0
  have HS := Lib.hid HS0
  have HX := Lib.hid hx'
  clear h hp hpp hx' hg HS0
  obtain ⟨pc, u, b, z⟩ := p
  simp only at hc
  unfold spotV at HS
  rcases hc with rfl | rfl
  all_goals
    go_enter Tryz.func8, Tryz.ntmps8
    go_wp2_with fail
    refine HS.out.mono ?_
    rintro en w1 ⟨rfl, b1⟩
    have HB := Lib.hid b1
    clear b1
    go_wp2
    go_ret
    rw [HX.out]
    exact ⟨_, rfl, (H.out.below HB.out).below ((Below.refl _ _).alloc (Nat.le_refl _) _), (Turns.of_below HB.out).alloc _⟩
theorem step_r_out (h : SmIs 59 B BC w a g X c P T st d U) (i : Int) (hok : ¬ okI U i) : Calls Tryz.prog 8 #[.pointer (some ⟨X.l, 0, none⟩), .int .i64 i] w (SmAct 59 B BC w a g X c P T ⟨st, d, U⟩) := by
  have hfp := field_pc
  have HS0 := spot_r h i
  rw [getS_out hok] at HS0
  have HS := Lib.hid HS0
  have H := Lib.hid h
  clear h hok HS0
  unfold spotV Sp.zero at HS
  go_enter Tryz.func8, Tryz.ntmps8
  go_wp2_with fail
  refine HS.out.mono ?_
  rintro en w1 ⟨rfl, b1⟩
  have HB := Lib.hid b1
  clear b1
  go_wp2
  go_ret
  exact ⟨_, rfl, (H.out.below HB.out).below ((Below.refl _ _).alloc (Nat.le_refl _) _), (Turns.of_below HB.out).alloc _⟩
set_option maxRecDepth 100000 in
set_option maxHeartbeats 4000000 in
theorem step_r_a1 (h : SmIs 59 B BC w a g X c P T st d U) (n : Nat) (hn : n < T.length) (pc b z : Int) (hU : sv U n = ⟨pc, 1, b, z⟩) (hc : pc ≠ 0 ∧ pc ≠ 10)
    (hD : ∀ W, SmIs 59 B BC W a g X c P T st d U → Calls Tryz.prog 18 #[.pointer (some ⟨X.l, 0, none⟩), .int .i64 pc, .int .i64 (c.node n : Nat)] W (NextOk 59 B BC W a g X c P T (rsDoes c (leavesL P).length ⟨st, d, U⟩ n ⟨pc, 1, b, z⟩) U)) : Calls Tryz.prog 8 #[.pointer (some ⟨X.l, 0, none⟩), .int .i64 n] w (SmAct 59 B BC w a g X c P T (rsStep c (leavesL P).length ⟨st, d, U⟩ n)) := by
  have hfp := field_pc
  have HS0 := spot_r h n
  have hp := h.thr hn
  have hg : getS U (n : Int) = sv U n := by
    unfold getS sv
    rw [if_pos ⟨by omega, by rw [h.lU]; omega⟩, Int.toNat_natCast]
  rw [hg] at HS0
  have H := Lib.hid h
  have t2 : ¬ (n : Int) < 0 := by omega
  have hn32 := h.nT.2.2.1
  obtain ⟨r, hr⟩ : ∃ r, r = rsDoes c (leavesL P).length ⟨st, d, U⟩ n ⟨pc, 1, b, z⟩ := ⟨_, rfl⟩
  have hx' : rsStep c (leavesL P).length ⟨st, d, U⟩ n = ⟨r.1, r.2.1, U.set n ⟨r.2.2, 1, b, z⟩⟩ := by
    unfold rsStep
    rw [if_neg (by rw [hU]; simp only; omega), hr, hU]
  rw [← hr] at hD
  rw [hU] at hp HS0
  obtain ⟨s1, d1, v⟩ := r
  simp only at hx'
  have u0 : (pc == 0) = false := by simpa using hc.1
  have u1 : (pc == 10) = false := by simpa using hc.2
  obtain ⟨hnd, hnn⟩ := h.nodeA hn
  obtain ⟨nd, hnde⟩ : ∃ nd, nd = c.node n := ⟨_, rfl⟩
  rw [← hnde] at hnn hnd hD
  have HN0 := Lib.hid hnn
  have HX := Lib.hid hx'
  have HS := Lib.hid HS0
  have HP := Lib.hid hp
  have HD := Lib.hid hD
  clear h hp hx' hg HS0 hD hr hU hc hnd hnn hnde
  unfold spotV at HS
  cases v1 : (v == 10) <;> cases v2 : (v == 0)
  all_goals
    go_enter Tryz.func8, Tryz.ntmps8
    go_wp2_with fail
    refine HS.out.mono ?_
    rintro en w1 ⟨rfl, b1⟩
    have K1 := Lib.hid (H.out.below b1)
    have T1 := Lib.hid (Turns.of_below (S := SmS a g X) b1)
    clear b1
    go_upto_region 2 with fail
    obtain ⟨sb, hsb⟩ : ∃ y, y = w1.heap.size := ⟨_, rfl⟩
    obtain ⟨wa, hwa⟩ : ∃ W, W = w1.alloc (.cells #[.int .i64 pc, .int .i64 1, .int .i64 b, .int .i64 z] 38) := ⟨_, rfl⟩
    rw [← hwa, ← hsb]
    have HA1 := Lib.hid (show SmIs 59 B BC wa a g X c P T st d U ∧ Turns (SmS a g X) w wa ∧ Blk wa sb 38 #[.int .i64 pc, .int .i64 1, .int .i64 b, .int .i64 z] ∧ sb ∉ SmS a g X from ⟨by rw [hwa]; exact (K1.out).below ((Below.refl _ _).alloc (Nat.le_refl _) _), by rw [hwa]; exact T1.out.alloc _, by rw [hwa, hsb]; exact Blk.new _ _ _, fun k => by have := K1.out.ltsA _ k; omega⟩)
    clear hwa hsb K1 T1
    have v0 : wa.cell? ⟨sb, 0, none⟩ = some (.int .i64 pc) := HA1.out.2.2.1.cell 0
    have va : wa.cell? ⟨sb, 1, none⟩ = some (.int .i64 1) := HA1.out.2.2.1.cell 1
    have l1 : wa.cell? ⟨X.l, 1, none⟩ = some (.pointer (some ⟨X.b, 0, none⟩)) := HA1.out.1.cs.2.1
    have K1d := Lib.hid HA1.out.1.drw
    have HNd := Lib.hid (nodeF wa.drew X.b P T n hn K1d.out.tb.f nd HN0.out)
    have HRe := Lib.hid (HD.out _ K1d.out)
    have HC := Lib.hid (fun W (st : Co) (d : Dr) (k : SmIs 59 B BC W a g X c P T st d U) (hb : Blk W sb 38 #[.int .i64 pc, .int .i64 1, .int .i64 b, .int .i64 z]) => And.intro (show W.cell? ⟨sb, 0, none⟩ = some (.int .i64 pc) from hb.cell 0) k.cs.2.1)
    go_wp2_with fail
    go_region_held3 (fun W => W.cell? ⟨sb, 0, none⟩ = some (.int .i64 pc) ∧ W.cell? ⟨X.l, 1, none⟩ = some (.pointer (some ⟨X.b, 0, none⟩)))
      (first | exact ⟨v0, l1⟩ | exact M3.out)
      (first
        | (go_at_call 19; go_loud (refine HNd.out.mono ?_); rintro en w2 ⟨rfl, rfl⟩)
        | (go_at_call 18; go_loud (refine HRe.out.mono ?_); rintro en w3 ⟨rfl, k3, t3⟩; have M3 := Lib.hid (HC.out _ _ _ k3 ((((Turns.refl (SmS a g X) wa).drew).trans t3).blk HA1.out.2.2.1 HA1.out.2.2.2)); have K3 := Lib.hid k3; have T3 := Lib.hid (HA1.out.2.1.drew.trans t3); clear k3 t3))
  all_goals
    have e0 := K3.out.sp.cell HP.out 0 _ rfl
    have z0 := K3.out.sp.free (n * 4)
    have d6 := K3.out.cs.2.2.2.2.2.2
    simp only [Nat.add_zero] at e0
    have K4 := Lib.hid (K3.out.put0 HP.out (p' := (⟨v, 1, b, z⟩ : Sp)) (u := .int .i64 v) rfl)
    go_wp2
    go_ret
    rw [HX.out]
    exact ⟨_, rfl, K4.out, T3.out.trans (smS_q _ _)⟩
set_option maxRecDepth 100000 in
set_option maxHeartbeats 4000000 in
theorem step_r_a0 (h : SmIs 59 B BC w a g X c P T st d U) (n : Nat) (hn : n < T.length) (pc b z : Int) (hU : sv U n = ⟨pc, 0, b, z⟩) (hc : pc ≠ 0 ∧ pc ≠ 10)
    (hD : ∀ W, SmIs 59 B BC W a g X c P T st d U → Calls Tryz.prog 20 #[.pointer (some ⟨X.l, 0, none⟩), .int .i64 n, .int .i64 pc] W (NextOk 59 B BC W a g X c P T (rsDoes c (leavesL P).length ⟨st, d, U⟩ n ⟨pc, 0, b, z⟩) U)) : Calls Tryz.prog 8 #[.pointer (some ⟨X.l, 0, none⟩), .int .i64 n] w (SmAct 59 B BC w a g X c P T (rsStep c (leavesL P).length ⟨st, d, U⟩ n)) := by
  have hfp := field_pc
  have HS0 := spot_r h n
  have hp := h.thr hn
  have hg : getS U (n : Int) = sv U n := by
    unfold getS sv
    rw [if_pos ⟨by omega, by rw [h.lU]; omega⟩, Int.toNat_natCast]
  rw [hg] at HS0
  have H := Lib.hid h
  have t2 : ¬ (n : Int) < 0 := by omega
  have hn32 := h.nT.2.2.1
  obtain ⟨r, hr⟩ : ∃ r, r = rsDoes c (leavesL P).length ⟨st, d, U⟩ n ⟨pc, 0, b, z⟩ := ⟨_, rfl⟩
  have hx' : rsStep c (leavesL P).length ⟨st, d, U⟩ n = ⟨r.1, r.2.1, U.set n ⟨r.2.2, 0, b, z⟩⟩ := by
    unfold rsStep
    rw [if_neg (by rw [hU]; simp only; omega), hr, hU]
  rw [← hr] at hD
  rw [hU] at hp HS0
  obtain ⟨s1, d1, v⟩ := r
  simp only at hx'
  have u0 : (pc == 0) = false := by simpa using hc.1
  have u1 : (pc == 10) = false := by simpa using hc.2
  have HX := Lib.hid hx'
  have HS := Lib.hid HS0
  have HP := Lib.hid hp
  have HD := Lib.hid hD
  clear h hp hx' hg HS0 hD hr hU hc
  unfold spotV at HS
  cases v1 : (v == 10) <;> cases v2 : (v == 0)
  all_goals
    go_enter Tryz.func8, Tryz.ntmps8
    go_wp2_with fail
    refine HS.out.mono ?_
    rintro en w1 ⟨rfl, b1⟩
    have K1 := Lib.hid (H.out.below b1)
    have T1 := Lib.hid (Turns.of_below (S := SmS a g X) b1)
    clear b1
    go_upto_region 2 with fail
    obtain ⟨sb, hsb⟩ : ∃ y, y = w1.heap.size := ⟨_, rfl⟩
    obtain ⟨wa, hwa⟩ : ∃ W, W = w1.alloc (.cells #[.int .i64 pc, .int .i64 0, .int .i64 b, .int .i64 z] 38) := ⟨_, rfl⟩
    rw [← hwa, ← hsb]
    have HA1 := Lib.hid (show SmIs 59 B BC wa a g X c P T st d U ∧ Turns (SmS a g X) w wa ∧ Blk wa sb 38 #[.int .i64 pc, .int .i64 0, .int .i64 b, .int .i64 z] ∧ sb ∉ SmS a g X from ⟨by rw [hwa]; exact (K1.out).below ((Below.refl _ _).alloc (Nat.le_refl _) _), by rw [hwa]; exact T1.out.alloc _, by rw [hwa, hsb]; exact Blk.new _ _ _, fun k => by have := K1.out.ltsA _ k; omega⟩)
    clear hwa hsb K1 T1
    have v0 : wa.cell? ⟨sb, 0, none⟩ = some (.int .i64 pc) := HA1.out.2.2.1.cell 0
    have va : wa.cell? ⟨sb, 1, none⟩ = some (.int .i64 0) := HA1.out.2.2.1.cell 1
    go_wp2_with fail
    refine (HD.out _ HA1.out.1).mono ?_
    rintro en w3 ⟨rfl, k3, t3⟩
    have K3 := Lib.hid k3
    have T3 := Lib.hid (HA1.out.2.1.trans t3)
    clear k3 t3
  all_goals
    have e0 := K3.out.sp.cell HP.out 0 _ rfl
    have z0 := K3.out.sp.free (n * 4)
    have d6 := K3.out.cs.2.2.2.2.2.2
    simp only [Nat.add_zero] at e0
    have K4 := Lib.hid (K3.out.put0 HP.out (p' := (⟨v, 0, b, z⟩ : Sp)) (u := .int .i64 v) rfl)
    go_wp2
    go_ret
    rw [HX.out]
    exact ⟨_, rfl, K4.out, T3.out.trans (smS_q _ _)⟩
theorem step_rAll (h : SmIs 59 B BC w a g X c P T st d U) (n : Nat) (hn : n < T.length) (hc : linkR (sv U n) (sv st.T n)) (ho : st.s.ops + 1 ≤ 1000000000000) (hN : 1 ≤ (leavesL P).length) (hb : ((sv U n).a = 0 → ((sv U n).pc = 9 ∨ (sv U n).pc = 6) → d.busy = true → d.at_ < (leavesL P).length)) (C : CoPre BB X.x c st) :
    Calls Tryz.prog 8 #[.pointer (some ⟨X.l, 0, none⟩), .int .i64 n] w (SmAct 59 B BC w a g X c P T (rsStep c (leavesL P).length ⟨st, d, U⟩ n)) := by
  obtain ⟨p, hpp⟩ : ∃ p, p = sv U n := ⟨_, rfl⟩
  have hcs : p.pc = 0 ∨ p.pc = 10 ∨ (p.a = 1 ∧ p.pc = 1) ∨ (p.a = 1 ∧ p.pc = 2) ∨ (p.a = 1 ∧ p.pc = 11) ∨ (p.a = 0 ∧ p.pc = 7) ∨ (p.a = 0 ∧ p.pc = 5) ∨ (p.a = 0 ∧ p.pc = 6) ∨ (p.a = 0 ∧ p.pc = 8) ∨ (p.a = 0 ∧ p.pc = 9) ∨ (p.a = 0 ∧ p.pc = 12) ∨ (p.a = 0 ∧ p.pc = 13) := by
    rw [← hpp] at hc
    unfold linkR at hc
    rcases hc with ⟨q1, _⟩ | ⟨q1, q2, _⟩ | ⟨q1, q2, _⟩ | ⟨q1, q2, _⟩ | ⟨q1, q2, _⟩
    all_goals omega
  have hb' := hb
  rw [← hpp] at hb'
  obtain ⟨pc, u, b, z⟩ := p
  have hpc : (sv U n).pc = pc := by rw [← hpp]
  simp only at hcs hb'
  have hnd := h.nodeA hn
  rcases hcs with rfl | rfl | ⟨rfl, rfl⟩ | ⟨rfl, rfl⟩ | ⟨rfl, rfl⟩ | ⟨rfl, rfl⟩ | ⟨rfl, rfl⟩ | ⟨rfl, rfl⟩ | ⟨rfl, rfl⟩ | ⟨rfl, rfl⟩ | ⟨rfl, rfl⟩ | ⟨rfl, rfl⟩
  · exact step_r0 h n hn (.inl hpc)
  · exact step_r0 h n hn (.inr hpc)
  · exact step_r_a1 h n hn _ b z hpp.symm (by decide) (fun W k => reads1_r k hnd.1 ho)
  · exact step_r_a1 h n hn _ b z hpp.symm (by decide) (fun W k => reads2_r k (c.node n) ho)
  · refine step_r_a1 h n hn _ b z hpp.symm (by decide) (fun W k => ?_)
    have k9 := reads11_r k hnd.1 ho
    rw [show 2 * ((c.node n : Nat) : Int) + 1 + 1 = gaW (c.node n) by unfold gaW; omega] at k9
    exact k9
  · exact step_r_a0 h n hn _ b z hpp.symm (by decide) (fun W k => writes7_r k n hn C ho)
  · exact step_r_a0 h n hn _ b z hpp.symm (by decide) (fun W k => writes5_r k hN n ho)
  · exact step_r_a0 h n hn _ b z hpp.symm (by decide) (fun W k => writes6_r k (hb' rfl (.inr rfl)) n ho)
  · exact step_r_a0 h n hn _ b z hpp.symm (by decide) (fun W k => writes8_r k hN n ho)
  · exact step_r_a0 h n hn _ b z hpp.symm (by decide) (fun W k => writes9_r k (hb' rfl (.inl rfl)) n ho)
  · exact step_r_a0 h n hn _ b z hpp.symm (by decide) (fun W k => writes12_r k n hn ho)
  · exact step_r_a0 h n hn _ b z hpp.symm (by decide) (fun W k => writes13_r k n hn C ho)
end
end Go.Proofs.YtmlcfmickonfbaaGreat
end
section
set_option linter.unusedVariables false
set_option linter.unusedSimpArgs false
/- Layer 36 (neutral): does, a step at a time, over the cohort lock. (printed by gen_sm7.py) -/
namespace Go.Proofs.YtmlcfmickonfbaaGreat
open Go.RowKit

section
variable {B BC : Nat → Prop} {w w' w0 : World} {a g bx : Nat} {X : SmX} {c : CoC} {P T : List Int} {st st' : Co} {d d' : Dr} {U : List Sp} {s' : Ar} {BB : Int}
end
end Go.Proofs.YtmlcfmickonfbaaGreat
end
section
set_option linter.unusedVariables false
set_option linter.unusedSimpArgs false
/- Layer 36 (neutral): the law's helpers over the cohort lock: do, in, made. (printed by gen_sm9.py) -/
namespace Go.Proofs.YtmlcfmickonfbaaGreat
open Go.RowKit

section
variable {B BC : Nat → Prop} {w w' : World} {a g : Nat} {X : SmX} {c : CoC} {P T : List Int} {st : Co} {d : Dr} {U : List Sp} {L : Nat} {BB : Int}
def rdH (U : List Sp) (j : Nat) : Bool := decide ((sv U j).pc = 10 ∧ (sv U j).a = 1)
def wrH (U : List Sp) (j : Nat) : Bool := decide ((sv U j).pc = 10 ∧ (sv U j).a = 0)
theorem cntN_ex {P : Nat → Bool} : ∀ n, 0 < cntN n P → ∃ i, i < n ∧ P i = true
  | 0, h => absurd h (Nat.lt_irrefl _)
  | n + 1, h => by
    rw [cntN_succ] at h
    by_cases hp : P n = true
    · exact ⟨n, by omega, hp⟩
    · rw [if_neg hp] at h
      obtain ⟨i, hi, hpi⟩ := cntN_ex n (by omega)
      exact ⟨i, by omega, hpi⟩
theorem cntN_uni {P : Nat → Bool} {i : Nat} (hu : ∀ j, P j = true → j = i) : ∀ n, cntN n P ≤ 1 ∧ (n ≤ i → cntN n P = 0)
  | 0 => ⟨Nat.zero_le _, fun _ => rfl⟩
  | n + 1 => by
    have ih := cntN_uni hu n
    rw [cntN_succ]
    by_cases hp : P n = true
    · have e := hu n hp
      have h0 := ih.2 (by omega)
      rw [if_pos hp]
      exact ⟨by omega, fun h => by omega⟩
    · rw [if_neg hp]
      exact ⟨by omega, fun h => by have := ih.2 (by omega); omega⟩
end
end Go.Proofs.YtmlcfmickonfbaaGreat
end
section
set_option linter.unusedVariables false
set_option linter.unusedSimpArgs false
/- Layer 37 (readers): the law's helpers over the cohort lock: do, in, made. (printed by gen_sm9.py) -/
namespace Go.Proofs.YtmlcfmickonfbaaGreat
open Go.RowKit

section
variable {B BC : Nat → Prop} {w w' : World} {a g : Nat} {X : SmX} {c : CoC} {P T : List Int} {st : Co} {d : Dr} {U : List Sp} {L : Nat} {BB : Int}
theorem stepI_r (h : SmIs 59 B BC w a g X c P T st d U) (hs : RsS c T.length (leavesL P).length L (mtQ P T) BB ⟨st, d, U⟩) (hk : NuK c T.length (leavesL P).length L (mtQ P T)) (hB : 40 ≤ BB ∧ BB ≤ 10000000000) (ho : st.s.ops + 1 ≤ 1000000000000) (i : Int) :
    Calls Tryz.prog 8 #[.pointer (some ⟨X.l, 0, none⟩), .int .i64 i] w (SmAct 59 B BC w a g X c P T (actRs c (leavesL P).length ⟨st, d, U⟩ 0 i)) := by
  unfold actRs
  by_cases hok : okI U i
  · rw [if_pos hok]
    obtain ⟨h0, h1⟩ := id hok
    rw [h.lU] at h1
    obtain ⟨n, rfl⟩ := Int.eq_ofNat_of_zero_le h0
    have hn : n < T.length := by omega
    have C := CoOk.pre (x := X.x) (by rw [h.nT.1]; exact hs.ok) (by rw [h.nT.1, h.nT.2.1]; exact hk.w) h.co.fx hB.1 hB.2 ho
    exact step_rAll h n hn (hs.i.k n hn) ho hk.N1 (fun _ _ hb => (hs.dok hb).1) C
  · rw [if_neg hok]
    exact step_r_out h i hok
theorem askFI_r (h : SmIs 59 B BC w a g X c P T st d U) (hs : RsS c T.length (leavesL P).length L (mtQ P T) BB ⟨st, d, U⟩) (hk : NuK c T.length (leavesL P).length L (mtQ P T)) (hB : 40 ≤ BB ∧ BB ≤ 10000000000) (ho : st.s.ops + 1 ≤ 1000000000000) (i : Int) :
    Calls Tryz.prog 14 #[.pointer (some ⟨X.l, 0, none⟩), .int .i64 i, .bool false] w (SmAct 59 B BC w a g X c P T (actRs c (leavesL P).length ⟨st, d, U⟩ 1 i)) := by
  unfold actRs
  by_cases hok : okI U i
  · rw [if_pos hok]
    obtain ⟨h0, h1⟩ := id hok
    rw [h.lU] at h1
    obtain ⟨n, rfl⟩ := Int.eq_ofNat_of_zero_le h0
    have hn : n < T.length := by omega
    exact ask_r h n hn false
  · rw [if_neg hok]
    exact ask_r_out h i hok false
theorem leaveI_r (h : SmIs 59 B BC w a g X c P T st d U) (hs : RsS c T.length (leavesL P).length L (mtQ P T) BB ⟨st, d, U⟩) (hk : NuK c T.length (leavesL P).length L (mtQ P T)) (hB : 40 ≤ BB ∧ BB ≤ 10000000000) (ho : st.s.ops + 1 ≤ 1000000000000) (i : Int) :
    Calls Tryz.prog 9 #[.pointer (some ⟨X.l, 0, none⟩), .int .i64 i] w (SmAct 59 B BC w a g X c P T (actRs c (leavesL P).length ⟨st, d, U⟩ 2 i)) := by
  unfold actRs
  by_cases hok : okI U i
  · rw [if_pos hok]
    obtain ⟨h0, h1⟩ := id hok
    rw [h.lU] at h1
    obtain ⟨n, rfl⟩ := Int.eq_ofNat_of_zero_le h0
    have hn : n < T.length := by omega
    refine leave_r h n hn (fun h10 => ?_)
    have hl := hs.i.k n hn
    unfold linkR at hl
    simp only at hl
    omega
  · rw [if_neg hok]
    exact leave_r_out h i hok
theorem askTI_r (h : SmIs 59 B BC w a g X c P T st d U) (hs : RsS c T.length (leavesL P).length L (mtQ P T) BB ⟨st, d, U⟩) (hk : NuK c T.length (leavesL P).length L (mtQ P T)) (hB : 40 ≤ BB ∧ BB ≤ 10000000000) (ho : st.s.ops + 1 ≤ 1000000000000) (i : Int) :
    Calls Tryz.prog 14 #[.pointer (some ⟨X.l, 0, none⟩), .int .i64 i, .bool true] w (SmAct 59 B BC w a g X c P T (actRs c (leavesL P).length ⟨st, d, U⟩ 3 i)) := by
  unfold actRs
  by_cases hok : okI U i
  · rw [if_pos hok]
    obtain ⟨h0, h1⟩ := id hok
    rw [h.lU] at h1
    obtain ⟨n, rfl⟩ := Int.eq_ofNat_of_zero_le h0
    have hn : n < T.length := by omega
    exact ask_r h n hn true
  · rw [if_neg hok]
    exact ask_r_out h i hok true
set_option maxHeartbeats 1000000 in
theorem doS_r (h : SmIs 59 B BC w a g X c P T st d U) (hs : RsS c T.length (leavesL P).length L (mtQ P T) BB ⟨st, d, U⟩) (hk : NuK c T.length (leavesL P).length L (mtQ P T)) (hB : 40 ≤ BB ∧ BB ≤ 10000000000) (ho : st.s.ops + 1 ≤ 1000000000000) (kd i : Int) :
    Calls Tryz.prog 7 #[.pointer (some ⟨X.l, 0, none⟩), .agg #[.int .i64 kd, .int .i64 i]] w (SmAct 59 B BC w a g X c P T (actRs c (leavesL P).length ⟨st, d, U⟩ kd i)) := by
  have hd : Below w.heap.size w (w.alloc (.cells #[.int .i64 kd, .int .i64 i] 35)) := (Below.refl _ _).alloc (Nat.le_refl _) _
  have HW := Lib.hid (And.intro (h.below hd) hd)
  have HS := Lib.hid (And.intro hs (And.intro hk hB))
  clear h hd hs hk hB
  by_cases k0 : kd = 0
  · subst k0
    go_enter Tryz.func7, Tryz.ntmps7
    go_wp2_with fail
    refine (stepI_r HW.out.1 HS.out.1 HS.out.2.1 HS.out.2.2 ho i).mono ?_
    rintro en w1 ⟨b, rfl, h1, h4⟩
    have H1 := Lib.hid (And.intro h1 h4)
    clear h1 h4
    go_wp2
    go_ret
    exact ⟨_, rfl, H1.out.1, (Turns.of_below HW.out.2).trans H1.out.2⟩
  have u0 : (kd == 0) = false := by simpa using k0
  by_cases k1 : kd = 1
  · subst k1
    clear k0 u0
    go_enter Tryz.func7, Tryz.ntmps7
    go_wp2_with fail
    refine (askFI_r HW.out.1 HS.out.1 HS.out.2.1 HS.out.2.2 ho i).mono ?_
    rintro en w1 ⟨b, rfl, h1, h4⟩
    have H1 := Lib.hid (And.intro h1 h4)
    clear h1 h4
    go_wp2
    go_ret
    exact ⟨_, rfl, H1.out.1, (Turns.of_below HW.out.2).trans H1.out.2⟩
  have u1 : (kd == 1) = false := by simpa using k1
  by_cases k2 : kd = 2
  · subst k2
    clear k0 k1 u0 u1
    go_enter Tryz.func7, Tryz.ntmps7
    go_wp2_with fail
    refine (leaveI_r HW.out.1 HS.out.1 HS.out.2.1 HS.out.2.2 ho i).mono ?_
    rintro en w1 ⟨b, rfl, h1, h4⟩
    have H1 := Lib.hid (And.intro h1 h4)
    clear h1 h4
    go_wp2
    go_ret
    exact ⟨_, rfl, H1.out.1, (Turns.of_below HW.out.2).trans H1.out.2⟩
  have u2 : (kd == 2) = false := by simpa using k2
  by_cases k3 : kd = 3
  · subst k3
    clear k0 k1 k2 u0 u1 u2
    go_enter Tryz.func7, Tryz.ntmps7
    go_wp2_with fail
    refine (askTI_r HW.out.1 HS.out.1 HS.out.2.1 HS.out.2.2 ho i).mono ?_
    rintro en w1 ⟨b, rfl, h1, h4⟩
    have H1 := Lib.hid (And.intro h1 h4)
    clear h1 h4
    go_wp2
    go_ret
    exact ⟨_, rfl, H1.out.1, (Turns.of_below HW.out.2).trans H1.out.2⟩
  have u3 : (kd == 3) = false := by simpa using k3
  have e : actRs c (leavesL P).length ⟨st, d, U⟩ kd i = ⟨st, d, U⟩ := by
    unfold actRs
    rw [if_neg k0, if_neg k1, if_neg k2, if_neg k3]
    split <;> rfl
  rw [e]
  clear e k0 k1 k2 k3
  go_enter Tryz.func7, Tryz.ntmps7
  go_wp2
  go_ret
  exact ⟨_, rfl, HW.out.1, Turns.of_below HW.out.2⟩
/-- one writer at most, and no reader beside it -/
theorem RsI.cnt {c : CoC} {n N : Nat} {ml : Nat → Nat} {x : Nu} (h : RsI c n N ml x) (y : CoLy c n N ml) : cntN n (wrH x.U) = 0 ∨ cntN n (wrH x.U) = 1 ∧ cntN n (rdH x.U) = 0 := by
  by_cases h0 : cntN n (wrH x.U) = 0
  · exact .inl h0
  · right
    obtain ⟨i, hi, hw⟩ := cntN_ex n (by omega : 0 < cntN n (wrH x.U))
    have hw' := of_decide_eq_true hw
    have one : ∀ j, j < n → (sv x.U j).pc = 10 → j = i ∧ (sv x.U j).a = 0 := fun j hj h10 => h.safe y hi hw'.1 hw'.2 hj h10
    have e1 : cntN n (wrH x.U) = cntN n (fun j => decide (j = i) && wrH x.U j) := (cntN_same n (fun j hj => by
      by_cases hb : wrH x.U j = true
      · have := one j hj (of_decide_eq_true hb).1
        simp [this.1]
      · simp at hb; simp [hb])).symm
    have e2 := cntN_uni (P := fun j => decide (j = i) && wrH x.U j) (i := i) (fun j hj => by simp at hj; exact hj.1) n
    refine ⟨by omega, ?_⟩
    by_cases h1 : cntN n (rdH x.U) = 0
    · exact h1
    · obtain ⟨j, hj, hr⟩ := cntN_ex n (by omega : 0 < cntN n (rdH x.U))
      have hr' := of_decide_eq_true hr
      have := one j hj hr'.1
      omega
end
structure SmStR (w0 w : World) (B BC : Nat → Prop) (a g : Nat) (X : SmX) (c : CoC) (P T : List Int) (L : Nat) (x : Nu) (BB : Int) (M : Nat) : Prop where
  is : SmIs 59 B BC w a g X c P T x.st x.d x.U
  s : RsS c T.length (leavesL P).length L (mtQ P T) BB x
  bel : Below w0.heap.size w0 w
  hl : ∀ i ∈ SmS a g X, w0.heap.size ≤ i
  op : x.st.s.ops ≤ M
theorem SmStR.below {w0 w w' : World} {B BC : Nat → Prop} {a g : Nat} {X : SmX} {c : CoC} {P T : List Int} {L M : Nat} {x : Nu} {BB : Int} (h : SmStR w0 w B BC a g X c P T L x BB M) (k : Below w.heap.size w w') : SmStR w0 w' B BC a g X c P T L x BB M := ⟨h.is.below k, h.s, h.bel.trans (k.mono h.bel.size), h.hl, h.op⟩
/-- an act -/
theorem SmStR.act {w0 w w' : World} {B BC : Nat → Prop} {a g : Nat} {X : SmX} {c : CoC} {P T : List Int} {L M : Nat} {x : Nu} {BB : Int} (h : SmStR w0 w B BC a g X c P T L x BB M) (hk : NuK c T.length (leavesL P).length L (mtQ P T)) (hB : 40 ≤ BB ∧ BB ≤ 10000000000) {kd i : Int} (k : SmIs 59 B BC w' a g X c P T (actRs c (leavesL P).length x kd i).st (actRs c (leavesL P).length x kd i).d (actRs c (leavesL P).length x kd i).U) (t : Turns (SmS a g X) w w') :
    SmStR w0 w' B BC a g X c P T L (actRs c (leavesL P).length x kd i) (BB + 4) (M + 1) ∧ (actRs c (leavesL P).length x kd i).st.s.ops ≤ x.st.s.ops + 1 ∧ (kd ≠ 0 → (actRs c (leavesL P).length x kd i).st.s.ops = x.st.s.ops) := by
  have q := h.s.act hk hB.1 (by omega) kd i
  exact ⟨⟨k, q.1, h.bel.trans (t.below h.hl h.bel.size), h.hl, by have := h.op; omega⟩, q.2⟩
set_option maxRecDepth 100000 in
theorem madeNoS_r (w : World) (vP vT : Value) (a0 a1 a2 : Int) (hs : SmNo w vP vT 8) :
    Calls Tryz.prog 4 #[.agg #[vP, vT], .agg #[.int .u8 a0, .int .u8 a1, .int .u8 a2]] w fun e w' => e = .returned (.tuple #[.pointer none, .pointer none, .bool false]) ∧ Below w.heap.size w w' := by
  have HB0 := Lib.hid (((Below.refl w.heap.size w).alloc (Nat.le_refl _) (.cells #[vP, vT] 24)).alloc (by simp) (.cells #[.int .u8 a0, .int .u8 a1, .int .u8 a2] 25))
  have H := Lib.hid (hs _ HB0.out)
  clear hs
  go_enter Tryz.func4, Tryz.ntmps4
  go_wp2_with fail
  refine H.out.mono ?_
  rintro en w1 ⟨rfl, b1⟩
  have HB1 := Lib.hid (HB0.out.trans (b1.mono HB0.out.size))
  clear b1
  go_wp2
  go_ret3
  exact ⟨rfl, HB1.out⟩
end Go.Proofs.YtmlcfmickonfbaaGreat
end
section
set_option linter.unusedVariables false
set_option linter.unusedSimpArgs false
/- Running closed code: plain data that stands for values and memory, by names in the place of blocks; what it means for such data to be what a world holds. No program in sight. -/
namespace Go.Proofs.YtmlcfmickonfbaaGreat
open Go.RowKit

/-! ### A tree of numbers -/
inductive Tr (α : Type) where
  | nil
  | nd (x : Option α) (l r : Tr α)
namespace Tr
variable {α : Type}
def get : Tr α → Nat → Option α
  | nil, _ => none
  | nd x l r, k => bif Nat.beq k 0 then x else bif Nat.beq (k % 2) 1 then l.get (k / 2) else r.get (k / 2 - 1)
def single : Nat → Nat → α → Tr α
  | 0, _, v => nd (some v) nil nil
  | f + 1, k, v => bif Nat.beq k 0 then nd (some v) nil nil else bif Nat.beq (k % 2) 1 then nd none (single f (k / 2) v) nil else nd none nil (single f (k / 2 - 1) v)
def set : Tr α → Nat → α → Tr α
  | nil, k, v => single k k v
  | nd x l r, k, v => bif Nat.beq k 0 then nd (some v) l r else bif Nat.beq (k % 2) 1 then nd x (l.set (k / 2) v) r else nd x l (r.set (k / 2 - 1) v)
def del : Tr α → Nat → Tr α
  | nil, _ => nil
  | nd x l r, k => bif Nat.beq k 0 then nd none l r else bif Nat.beq (k % 2) 1 then nd x (l.del (k / 2)) r else nd x l (r.del (k / 2 - 1))
theorem beqd (a b : Nat) : Nat.beq a b = decide (a = b) := by
  rw [Bool.eq_iff_iff, Nat.beq_eq]; simp
theorem get_single (v : α) : ∀ (f k : Nat), k ≤ f → ∀ j, (single f k v).get j = if j = k then some v else none
  | 0, k, h, j => by
    obtain rfl : k = 0 := by omega
    simp only [single, get, beqd]
    by_cases hj : j = 0 <;> simp [hj]
  | f + 1, k, h, j => by
    simp only [single, beqd]
    by_cases hk : k = 0
    · subst hk
      by_cases hj : j = 0 <;> simp [get, hj, beqd]
    · by_cases ho : k % 2 = 1
      · simp only [hk, ho, decide_false, decide_true, cond_false, cond_true, get, beqd]
        rw [get_single v f (k / 2) (by omega)]
        by_cases hj : j = 0
        · have : ¬ j = k := by omega
          simp [hj]; omega
        · by_cases hjo : j % 2 = 1
          · simp only [hj, hjo, decide_false, decide_true, cond_false, cond_true]
            by_cases e : j = k
            · subst e; simp
            · rw [if_neg (by omega), if_neg e]
          · simp only [hj, hjo, decide_false, cond_false]
            rw [if_neg (by omega)]
      · simp only [hk, ho, decide_false, cond_false, get, beqd]
        rw [get_single v f (k / 2 - 1) (by omega)]
        by_cases hj : j = 0
        · simp [hj]; omega
        · by_cases hjo : j % 2 = 1
          · simp only [hj, hjo, decide_false, decide_true, cond_false, cond_true]
            rw [if_neg (by omega)]
          · simp only [hj, hjo, decide_false, cond_false]
            by_cases e : j = k
            · subst e; simp
            · rw [if_neg (by omega), if_neg e]
theorem get_set (v : α) : ∀ (t : Tr α) (k j : Nat), (t.set k v).get j = if j = k then some v else t.get j
  | nil, k, j => by
    show (single k k v).get j = _
    rw [get_single v k k (Nat.le_refl _) j]; rfl
  | nd x l r, k, j => by
    simp only [set, beqd]
    by_cases hk : k = 0
    · subst hk
      by_cases hj : j = 0 <;> simp [get, hj, beqd]
    · by_cases ho : k % 2 = 1
      · simp only [hk, ho, decide_false, decide_true, cond_false, cond_true, get, beqd]
        by_cases hj : j = 0
        · simp [hj]; omega
        · by_cases hjo : j % 2 = 1
          · simp only [hj, hjo, decide_false, decide_true, cond_false, cond_true]
            rw [get_set v l]
            by_cases e : j = k
            · subst e; simp
            · rw [if_neg (by omega), if_neg e]
          · simp only [hj, hjo, decide_false, cond_false]
            rw [if_neg (by omega)]
      · simp only [hk, ho, decide_false, cond_false, get, beqd]
        by_cases hj : j = 0
        · simp [hj]; omega
        · by_cases hjo : j % 2 = 1
          · simp only [hj, hjo, decide_false, decide_true, cond_false, cond_true]
            rw [if_neg (by omega)]
          · simp only [hj, hjo, decide_false, cond_false]
            rw [get_set v r]
            by_cases e : j = k
            · subst e; simp
            · rw [if_neg (by omega), if_neg e]
theorem get_del : ∀ (t : Tr α) (k j : Nat), (t.del k).get j = if j = k then none else t.get j
  | nil, k, j => by simp [del, get]
  | nd x l r, k, j => by
    simp only [del, beqd]
    by_cases hk : k = 0
    · subst hk
      by_cases hj : j = 0 <;> simp [get, hj, beqd]
    · by_cases ho : k % 2 = 1
      · simp only [hk, ho, decide_false, decide_true, cond_false, cond_true, get, beqd]
        by_cases hj : j = 0
        · simp [hj]; omega
        · by_cases hjo : j % 2 = 1
          · simp only [hj, hjo, decide_false, decide_true, cond_false, cond_true]
            rw [get_del l]
            by_cases e : j = k
            · subst e; simp
            · rw [if_neg (by omega), if_neg e]
          · simp only [hj, hjo, decide_false, cond_false]
            rw [if_neg (by omega)]
      · simp only [hk, ho, decide_false, cond_false, get, beqd]
        by_cases hj : j = 0
        · simp [hj]; omega
        · by_cases hjo : j % 2 = 1
          · simp only [hj, hjo, decide_false, decide_true, cond_false, cond_true]
            rw [if_neg (by omega)]
          · simp only [hj, hjo, decide_false, cond_false]
            rw [get_del r]
            by_cases e : j = k
            · subst e; simp
            · rw [if_neg (by omega), if_neg e]
end Tr

/-! ### Values by names -/
/-- a slice's capacity: known, or what its block has room for (cells an element) -/
inductive Cp where
  | k (c : Nat)
  | u (es : Nat)
/-- what one cell holds -/
inductive C where
  | b (x : Bool)
  | i (k : IntKind) (n : Int)
  | s (x : ByteArray)
  | p (x : Option (Nat × Nat))
  | l (x : Option (Nat × Nat)) (n : Nat) (c : Cp)
  | f (fn : Nat) (first cap : List (Nat × Nat))
  | nf
  | ni
  /-- an interface's value: a cell, or a struct of one cell -/
  | d (t : TypeId) (agg : Bool) (x : C)
/-- a cell, or a struct's or an array's cells -/
inductive Wv where
  | c (x : C)
  | a (cs : List C)
/-- a value of a temporary -/
inductive V where
  | w (x : Wv)
  | t (xs : List Wv)
/-- names' blocks, and how many cells these have -/
abbrev Nm := Nat → Option (Nat × Nat)
def Nm.le (r s : Nm) : Prop := ∀ k x, r k = some x → s k = some x
theorem Nm.le_refl (r : Nm) : r.le r := fun _ _ h => h
theorem Nm.le_trans {r s t : Nm} (h : r.le s) (k : s.le t) : r.le t := fun _ _ e => k _ _ (h _ _ e)
def ptrOf (b o : Nat) : Value := .pointer (some ⟨b, o, none⟩)
inductive AR (r : Nm) : List (Nat × Nat) → List Value → Prop where
  | nil : AR r [] []
  | cons {k o b sz xs vs} (h : r k = some (b, sz)) (t : AR r xs vs) : AR r ((k, o) :: xs) (ptrOf b o :: vs)
inductive CR (r : Nm) : C → Value → Prop where
  | b (x) : CR r (.b x) (.bool x)
  | i (k n) : CR r (.i k n) (.int k n)
  | s (x) : CR r (.s x) (.string x)
  | p0 : CR r (.p none) (.pointer none)
  | p {k o b sz} (h : r k = some (b, sz)) : CR r (.p (some (k, o))) (ptrOf b o)
  | l0 (n c) : CR r (.l none n (.k c)) (.slice none n c)
  | l {k o b sz} (n c) (h : r k = some (b, sz)) : CR r (.l (some (k, o)) n (.k c)) (.slice (some ⟨b, o, none⟩) n c)
  | u {k o b sz} (n c es) (h : r k = some (b, sz)) (h1 : n ≤ c) (h2 : c ≤ maxLen) (h3 : o + c * es = sz) : CR r (.l (some (k, o)) n (.u es)) (.slice (some ⟨b, o, none⟩) n c)
  | f (fn) {a c va vc} (ha : AR r a va) (hc : AR r c vc) : CR r (.f fn a c) (.func (.func fn) va.toArray vc.toArray)
  | nf : CR r .nf .nilFunc
  | ni : CR r .ni .nilIface
  | d (t) {c v} (h : CR r c v) : CR r (.d t false c) (.iface t v)
  | da (t) {c v} (h : CR r c v) : CR r (.d t true c) (.iface t (.agg #[v]))
inductive CsR (r : Nm) : List C → List Value → Prop where
  | nil : CsR r [] []
  | cons {c v cs vs} (h : CR r c v) (t : CsR r cs vs) : CsR r (c :: cs) (v :: vs)
inductive WR (r : Nm) : Wv → Value → Prop where
  | c {x v} (h : CR r x v) : WR r (.c x) v
  | a {cs vs} (h : CsR r cs vs) : WR r (.a cs) (.agg vs.toArray)
inductive WsR (r : Nm) : List Wv → List Value → Prop where
  | nil : WsR r [] []
  | cons {c v cs vs} (h : WR r c v) (t : WsR r cs vs) : WsR r (c :: cs) (v :: vs)
inductive VR (r : Nm) : V → Value → Prop where
  | w {x v} (h : WR r x v) : VR r (.w x) v
  | t {xs vs} (h : WsR r xs vs) : VR r (.t xs) (.tuple vs.toArray)
section mono
variable {r s : Nm} (h : r.le s)
include h
theorem AR.mono {x v} (k : AR r x v) : AR s x v := by
  induction k with
  | nil => exact .nil
  | cons e _ ih => exact .cons (h _ _ e) ih
theorem CR.mono {x v} (k : CR r x v) : CR s x v := by
  induction k with
  | b => exact .b _
  | i => exact .i _ _
  | s => exact .s _
  | p0 => exact .p0
  | p e => exact .p (h _ _ e)
  | l0 => exact .l0 _ _
  | l n c e => exact .l n c (h _ _ e)
  | u n c es e h1 h2 h3 => exact .u n c es (h _ _ e) h1 h2 h3
  | f fn ha hc => exact .f fn (ha.mono h) (hc.mono h)
  | nf => exact .nf
  | ni => exact .ni
  | d t _ ih => exact .d t ih
  | da t _ ih => exact .da t ih
theorem CsR.mono {x v} (k : CsR r x v) : CsR s x v := by
  induction k with
  | nil => exact .nil
  | cons e _ ih => exact .cons (e.mono h) ih
theorem WR.mono {x v} (k : WR r x v) : WR s x v := by
  cases k with
  | c e => exact .c (e.mono h)
  | a e => exact .a (e.mono h)
theorem WsR.mono {x v} (k : WsR r x v) : WsR s x v := by
  induction k with
  | nil => exact .nil
  | cons e _ ih => exact .cons (e.mono h) ih
theorem VR.mono {x v} (k : VR r x v) : VR s x v := by
  cases k with
  | w e => exact .w (e.mono h)
  | t e => exact .t (e.mono h)
end mono

/-! ### Memory by names -/
structure Bk where
  e : TypeId
  n : Nat
  /-- what a cell holds that u does not name: this pattern, again and again -/
  d : List C
  u : Tr C
def Bk.cell (b : Bk) (j : Nat) : C := match b.u.get j with
  | some c => c
  | none => b.d.getD (j % b.d.length) .ni
abbrev Hp := Tr Bk
/-- what a block holds, as far as it is known -/
structure BR (r : Nm) (w : World) (B : Bk) (b sz : Nat) : Prop where
  ex : ∃ cs, w.heap[b]? = some (.cells cs B.e (0, 0)) ∧ cs.size = sz ∧ B.n ≤ sz ∧ ∀ j, j < B.n → ∃ v, cs[j]? = some v ∧ CR r (B.cell j) v
/-- what a memory by names is in a world -/
structure RelH (r : Nm) (H : Hp) (w : World) : Prop where
  at_ : ∀ k B, H.get k = some B → ∃ b sz, r k = some (b, sz) ∧ BR r w B b sz
  inj : ∀ k j B D b s t, H.get k = some B → H.get j = some D → r k = some (b, s) → r j = some (b, t) → k = j
/-- what else a call leaves as it was -/
structure Fr (r : Nm) (H : Hp) (w w' : World) : Prop where
  os : w'.os = w.os
  tape : w'.tape = w.tape
  output : w'.output = w.output
  size : w.heap.size ≤ w'.heap.size
  block : ∀ b, b < w.heap.size → (∀ k B sz, H.get k = some B → r k ≠ some (b, sz)) → w'.heap[b]? = w.heap[b]?
theorem BR.mono {r s : Nm} {w : World} {B : Bk} {b sz : Nat} (h : r.le s) (k : BR r w B b sz) : BR s w B b sz := by
  obtain ⟨cs, h1, h2, h3, h4⟩ := k.ex
  exact ⟨cs, h1, h2, h3, fun j hj => by obtain ⟨v, a, c⟩ := h4 j hj; exact ⟨v, a, c.mono h⟩⟩
theorem BR.lt {r : Nm} {w : World} {B : Bk} {b sz : Nat} (k : BR r w B b sz) : b < w.heap.size := by
  obtain ⟨cs, h1, _⟩ := k.ex
  exact (Array.getElem?_eq_some_iff.1 h1).1
theorem BR.keep {r : Nm} {w w' : World} {B : Bk} {b sz : Nat} (k : BR r w B b sz) (h : w'.heap[b]? = w.heap[b]?) : BR r w' B b sz := by
  obtain ⟨cs, h1, h2⟩ := k.ex
  exact ⟨cs, h.trans h1, h2⟩
theorem Fr.refl (r : Nm) (H : Hp) (w : World) : Fr r H w w := ⟨rfl, rfl, rfl, Nat.le_refl _, fun _ _ _ => rfl⟩
theorem Fr.drew {r : Nm} {H : Hp} {w w' : World} (h : Fr r H w w') : Fr r H w w'.drew := ⟨h.os, h.tape, h.output, h.size, h.block⟩
end Go.Proofs.YtmlcfmickonfbaaGreat
end
