/- Joined: Sm7w, Sm8w, Sm9w, Aw38. -/
import Derived.Test.YtndipiockdmaoaaGreatMgRwU19
import Derived.Test.YtndipiockdmaoaaGreatMgRwU24
import Derived.Test.YtndipiockdmaoaaGreatMgRwU25
import Derived.Test.YtndipiockdmaoaaGreatMgRwU27
section
set_option linter.unusedVariables false
set_option linter.unusedSimpArgs false
/- Layer 38 (writers): what a step does, over the cohort lock. (printed by gen_sm67.py) -/
namespace Go.Proofs.YtndipiockdmaoaaGreat
open Go.RowKit

section
variable {B BC : Nat → Prop} {w w' w0 : World} {a g : Nat} {X : SmX} {c : CoC} {P T : List Int} {st st' : Co} {d d' : Dr} {U : List Sp} {s' : Ar} {BB : Int}
set_option maxRecDepth 100000 in
set_option maxHeartbeats 2000000 in
theorem quiet_w (h : SmIs 117 B BC w a g X c P T st d U) (ho : st.s.ops + 1 ≤ 1000000000000) : Calls Tryz.prog 123 #[.pointer (some ⟨X.l, 0, none⟩)] w fun e w' => e = .returned (.bool (ldW st.s.W (nuFl (leavesL P).length) == 0)) ∧ SmIs 117 B BC w' a g X c P T (onA st (loadA st.s (nuFl (leavesL P).length))) d U ∧ Turns (SmS a g X) w w' := by
  have H := Lib.hid h
  clear h
  obtain ⟨q, hq⟩ : ∃ q, q = ldW st.s.W (nuFl (leavesL P).length) := ⟨_, rfl⟩
  rw [← hq]
  have HQ := Lib.hid hq
  clear hq
  have K0d := Lib.hid H.out.drw
  have HO0 := Lib.hid (load_any (K0d.out).gd.ar (nuFl (leavesL P).length) ho)
  rw [← HQ.out] at HO0
  go_enter Tryz.func123, Tryz.ntmps123
  go_wp2_with fail
  go_region_held3 (fun W => W.cell? ⟨X.l, 0, none⟩ = some (.pointer (some ⟨a, 0, none⟩)) ∧ W.cell? ⟨X.l, 4, none⟩ = some (.int .i64 (2 * ((leavesL P).length : Int) + 1)))
    (first | exact ⟨K0d.out.cs.1, K0d.out.cs.2.2.2.2.1⟩ | exact ⟨K1.out.cs.1, K1.out.cs.2.2.2.2.1⟩)
    (first
      | (go_at_call 77; go_loud (refine HO0.out.mono ?_); rintro en w1 ⟨rfl, a3, t3⟩; have K1 := Lib.hid (K0d.out.arT t3 a3); have T1 := Lib.hid ((Turns.refl (SmS a g X) w).drew.trans (smS_ag t3)); clear a3 t3))
  go_wp2
  go_ret
  exact ⟨rfl, K1.out, T1.out⟩
set_option maxRecDepth 100000 in
set_option maxHeartbeats 2000000 in
theorem read2_w (h : SmIs 117 B BC w a g X c P T st d U) (n : Nat) (hn : n < T.length) {nd : Nat} (hnd : nd < (leavesL P).length) (hnn : (nodesTo P T T.length)[n]? = some ((nd : Nat) : Int)) (ho : st.s.ops + 1 ≤ 1000000000000) : Calls Tryz.prog 86 #[.pointer (some ⟨X.l, 0, none⟩), .int .i64 n, .int .i64 2] w (NextOk 117 B BC w a g X c P T (onA st (addA st.s (2 * (nd : Int) + 1) 1), d, 3) U) := by
  have HND := Lib.hid (nodeF w X.b P T n hn h.tb.f _ hnn)
  have l1 := h.cs.2.1
  have hnd := Lib.hid hnd
  have H := Lib.hid h
  clear h hnn
  go_enter Tryz.func86, Tryz.ntmps86
  go_wp2_with fail
  refine HND.out.mono ?_
  rintro en wn ⟨rfl, rfl⟩
  have K0 := H
  have T0 := Lib.hid (Turns.refl (SmS a g X) w)
  have d2 := K0.out.cs.2.2.1
  go_wp2_with fail
  refine (gaEnter K0.out.gd.ga K0.out.gd.ar nd hnd.out K0.out.gd.n32 ho).mono ?_
  rintro en w1 ⟨rfl, a2, t2⟩
  have K1 := Lib.hid (K0.out.arT t2 a2)
  have T1 := Lib.hid (T0.out.trans (smS_ag t2))
  clear a2 t2
  go_wp2
  go_ret
  exact ⟨rfl, K1.out, T1.out⟩
set_option maxRecDepth 100000 in
set_option maxHeartbeats 2000000 in
theorem read4_w (h : SmIs 117 B BC w a g X c P T st d U) (n : Nat) (hn : n < T.length) {nd : Nat} (hnd : nd < (leavesL P).length) (hnn : (nodesTo P T T.length)[n]? = some ((nd : Nat) : Int)) (ho : st.s.ops + 1 ≤ 1000000000000) : Calls Tryz.prog 86 #[.pointer (some ⟨X.l, 0, none⟩), .int .i64 n, .int .i64 4] w (NextOk 117 B BC w a g X c P T (onA st (addA st.s (2 * (nd : Int) + 1 + 1) 1), d, 1) U) := by
  have HND := Lib.hid (nodeF w X.b P T n hn h.tb.f _ hnn)
  have l1 := h.cs.2.1
  have hnd := Lib.hid hnd
  have H := Lib.hid h
  clear h hnn
  go_enter Tryz.func86, Tryz.ntmps86
  go_wp2_with fail
  refine HND.out.mono ?_
  rintro en wn ⟨rfl, rfl⟩
  have K0 := H
  have T0 := Lib.hid (Turns.refl (SmS a g X) w)
  have d2 := K0.out.cs.2.2.1
  go_wp2_with fail
  refine (gaExit K0.out.gd.ga K0.out.gd.ar nd hnd.out K0.out.gd.n32 ho).mono ?_
  rintro en w1 ⟨rfl, a2, t2⟩
  have K1 := Lib.hid (K0.out.arT t2 a2)
  have T1 := Lib.hid (T0.out.trans (smS_ag t2))
  clear a2 t2
  go_wp2
  go_ret
  exact ⟨rfl, K1.out, T1.out⟩
set_option maxRecDepth 100000 in
set_option maxHeartbeats 2000000 in
theorem read11_w (h : SmIs 117 B BC w a g X c P T st d U) (n : Nat) (hn : n < T.length) {nd : Nat} (hnd : nd < (leavesL P).length) (hnn : (nodesTo P T T.length)[n]? = some ((nd : Nat) : Int)) (ho : st.s.ops + 1 ≤ 1000000000000) : Calls Tryz.prog 86 #[.pointer (some ⟨X.l, 0, none⟩), .int .i64 n, .int .i64 11] w (NextOk 117 B BC w a g X c P T (onA st (addA st.s (2 * (nd : Int) + 1 + 1) 1), d, 0) U) := by
  have HND := Lib.hid (nodeF w X.b P T n hn h.tb.f _ hnn)
  have l1 := h.cs.2.1
  have hnd := Lib.hid hnd
  have H := Lib.hid h
  clear h hnn
  go_enter Tryz.func86, Tryz.ntmps86
  go_wp2_with fail
  refine HND.out.mono ?_
  rintro en wn ⟨rfl, rfl⟩
  have K0 := H
  have T0 := Lib.hid (Turns.refl (SmS a g X) w)
  have d2 := K0.out.cs.2.2.1
  go_wp2_with fail
  refine (gaExit K0.out.gd.ga K0.out.gd.ar nd hnd.out K0.out.gd.n32 ho).mono ?_
  rintro en w1 ⟨rfl, a2, t2⟩
  have K1 := Lib.hid (K0.out.arT t2 a2)
  have T1 := Lib.hid (T0.out.trans (smS_ag t2))
  clear a2 t2
  go_wp2
  go_ret
  exact ⟨rfl, K1.out, T1.out⟩
set_option maxRecDepth 100000 in
set_option maxHeartbeats 2000000 in
theorem read1_w (h : SmIs 117 B BC w a g X c P T st d U) (n : Nat) (hn : n < T.length) {nd : Nat} (hnd : nd < (leavesL P).length) (hnn : (nodesTo P T T.length)[n]? = some ((nd : Nat) : Int)) (ho : st.s.ops + 1 ≤ 1000000000000) : Calls Tryz.prog 86 #[.pointer (some ⟨X.l, 0, none⟩), .int .i64 n, .int .i64 1] w (NextOk 117 B BC w a g X c P T (onA st (loadA st.s (nuFl (leavesL P).length)), d, if ldW st.s.W (nuFl (leavesL P).length) = 0 then 2 else 1) U) := by
  have HND := Lib.hid (nodeF w X.b P T n hn h.tb.f _ hnn)
  have l1 := h.cs.2.1
  have hnd := Lib.hid hnd
  have HQ0 := quiet_w h ho
  obtain ⟨q, hq⟩ : ∃ q, q = ldW st.s.W (nuFl (leavesL P).length) := ⟨_, rfl⟩
  rw [← hq] at HQ0 ⊢
  obtain ⟨v, hv⟩ : ∃ v : Int, v = if q = 0 then 2 else 1 := ⟨_, rfl⟩
  rw [← hv]
  have HV := Lib.hid hv
  have H := Lib.hid h
  clear h hnn hq hv
  cases hz : (q == 0)
  all_goals
    rw [hz] at HQ0
    have HQ := Lib.hid HQ0
    clear HQ0
    go_enter Tryz.func86, Tryz.ntmps86
    go_wp2_with fail
    refine HND.out.mono ?_
    rintro en wn ⟨rfl, rfl⟩
    go_wp2_with fail
    refine HQ.out.mono ?_
    rintro en w1 ⟨rfl, k3, t3⟩
    have HK := Lib.hid (And.intro k3 t3)
    clear k3 t3
    go_wp2
    go_ret
    first
    | (rw [HV.out, if_pos (by simpa using hz)]
       exact ⟨rfl, HK.out.1, HK.out.2⟩)
    | (rw [HV.out, if_neg (by simpa using hz)]
       exact ⟨rfl, HK.out.1, HK.out.2⟩)
set_option maxRecDepth 100000 in
set_option maxHeartbeats 2000000 in
theorem read3_w (h : SmIs 117 B BC w a g X c P T st d U) (n : Nat) (hn : n < T.length) {nd : Nat} (hnd : nd < (leavesL P).length) (hnn : (nodesTo P T T.length)[n]? = some ((nd : Nat) : Int)) (ho : st.s.ops + 1 ≤ 1000000000000) : Calls Tryz.prog 86 #[.pointer (some ⟨X.l, 0, none⟩), .int .i64 n, .int .i64 3] w (NextOk 117 B BC w a g X c P T (onA st (loadA st.s (nuFl (leavesL P).length)), d, if ldW st.s.W (nuFl (leavesL P).length) = 0 then 10 else 4) U) := by
  have HND := Lib.hid (nodeF w X.b P T n hn h.tb.f _ hnn)
  have l1 := h.cs.2.1
  have hnd := Lib.hid hnd
  have HQ0 := quiet_w h ho
  obtain ⟨q, hq⟩ : ∃ q, q = ldW st.s.W (nuFl (leavesL P).length) := ⟨_, rfl⟩
  rw [← hq] at HQ0 ⊢
  obtain ⟨v, hv⟩ : ∃ v : Int, v = if q = 0 then 10 else 4 := ⟨_, rfl⟩
  rw [← hv]
  have HV := Lib.hid hv
  have H := Lib.hid h
  clear h hnn hq hv
  cases hz : (q == 0)
  all_goals
    rw [hz] at HQ0
    have HQ := Lib.hid HQ0
    clear HQ0
    go_enter Tryz.func86, Tryz.ntmps86
    go_wp2_with fail
    refine HND.out.mono ?_
    rintro en wn ⟨rfl, rfl⟩
    go_wp2_with fail
    refine HQ.out.mono ?_
    rintro en w1 ⟨rfl, k3, t3⟩
    have HK := Lib.hid (And.intro k3 t3)
    clear k3 t3
    go_wp2
    go_ret
    first
    | (rw [HV.out, if_pos (by simpa using hz)]
       exact ⟨rfl, HK.out.1, HK.out.2⟩)
    | (rw [HV.out, if_neg (by simpa using hz)]
       exact ⟨rfl, HK.out.1, HK.out.2⟩)
set_option maxRecDepth 100000 in
set_option maxHeartbeats 2000000 in
theorem write5_w (h : SmIs 117 B BC w a g X c P T st d U) (n : Nat) (hn : n < T.length) (ho : st.s.ops + 1 ≤ 1000000000000) : Calls Tryz.prog 85 #[.pointer (some ⟨X.l, 0, none⟩), .int .i64 n, .int .i64 5] w (NextOk 117 B BC w a g X c P T (coAsk c (onA st (addA st.s (nuFl (leavesL P).length) 1)) n, d, 7) U) := by
  have hnx : n < X.x.n := by rw [h.nT.1]; exact hn
  have H := Lib.hid h
  clear h
  go_enter Tryz.func85, Tryz.ntmps85
  have K0 := H
  have T0 := Lib.hid (Turns.refl (SmS a g X) w)
  have K0d := Lib.hid K0.out.drw
  have HO0 := Lib.hid (add_any (K0d.out).gd.ar (nuFl (leavesL P).length) (1) ho)
  obtain ⟨va, hva⟩ : ∃ va : Int, va = (if inR st.s.W (nuFl (leavesL P).length) then IntKind.i64.wrap (ldW st.s.W (nuFl (leavesL P).length) + (1)) else 0) := ⟨_, rfl⟩
  rw [← hva] at HO0
  clear hva
  go_wp2_with fail
  go_region_held3 (fun W => W.cell? ⟨X.l, 0, none⟩ = some (.pointer (some ⟨a, 0, none⟩)) ∧ W.cell? ⟨X.l, 4, none⟩ = some (.int .i64 (2 * ((leavesL P).length : Int) + 1)))
    (first | exact ⟨K0d.out.cs.1, K0d.out.cs.2.2.2.2.1⟩ | exact ⟨K1.out.cs.1, K1.out.cs.2.2.2.2.1⟩)
    (first
      | (go_at_call 122; go_loud (refine HO0.out.mono ?_); rintro en w1 ⟨rfl, a3, t3⟩; have K1 := Lib.hid (K0d.out.arT t3 a3); have T1 := Lib.hid (T0.out.drew.trans (smS_ag t3)); clear a3 t3))
  have l5 := K1.out.cs.2.2.2.2.2.1
  go_wp2_with fail
  refine (askCo K1.out.co n hnx).mono ?_
  rintro en w2 ⟨rfl, k3, t3⟩
  have K2 := Lib.hid (K1.out.coT t3 k3)
  have T2 := Lib.hid (T1.out.trans (smS_co t3))
  clear k3 t3 l5
  go_wp2
  go_ret
  exact ⟨rfl, K2.out, T2.out⟩
set_option maxRecDepth 100000 in
set_option maxHeartbeats 2000000 in
theorem write12_w (h : SmIs 117 B BC w a g X c P T st d U) (n : Nat) (hn : n < T.length) (ho : st.s.ops + 1 ≤ 1000000000000) : Calls Tryz.prog 85 #[.pointer (some ⟨X.l, 0, none⟩), .int .i64 n, .int .i64 12] w (NextOk 117 B BC w a g X c P T (coLeave (onA st (addA st.s (nuFl (leavesL P).length) (-1))) n, d, 13) U) := by
  have hnx : n < X.x.n := by rw [h.nT.1]; exact hn
  have H := Lib.hid h
  clear h
  go_enter Tryz.func85, Tryz.ntmps85
  have K0 := H
  have T0 := Lib.hid (Turns.refl (SmS a g X) w)
  have K0d := Lib.hid K0.out.drw
  have HO0 := Lib.hid (add_any (K0d.out).gd.ar (nuFl (leavesL P).length) (-1) ho)
  obtain ⟨va, hva⟩ : ∃ va : Int, va = (if inR st.s.W (nuFl (leavesL P).length) then IntKind.i64.wrap (ldW st.s.W (nuFl (leavesL P).length) + (-1)) else 0) := ⟨_, rfl⟩
  rw [← hva] at HO0
  clear hva
  go_wp2_with fail
  go_region_held3 (fun W => W.cell? ⟨X.l, 0, none⟩ = some (.pointer (some ⟨a, 0, none⟩)) ∧ W.cell? ⟨X.l, 4, none⟩ = some (.int .i64 (2 * ((leavesL P).length : Int) + 1)))
    (first | exact ⟨K0d.out.cs.1, K0d.out.cs.2.2.2.2.1⟩ | exact ⟨K1.out.cs.1, K1.out.cs.2.2.2.2.1⟩)
    (first
      | (go_at_call 122; go_loud (refine HO0.out.mono ?_); rintro en w1 ⟨rfl, a3, t3⟩; have K1 := Lib.hid (K0d.out.arT t3 a3); have T1 := Lib.hid (T0.out.drew.trans (smS_ag t3)); clear a3 t3))
  have l5 := K1.out.cs.2.2.2.2.2.1
  go_wp2_with fail
  refine (leaveCo K1.out.co n hnx).mono ?_
  rintro en w2 ⟨rfl, k3, t3⟩
  have K2 := Lib.hid (K1.out.coT t3 k3)
  have T2 := Lib.hid (T1.out.trans (smS_co t3))
  clear k3 t3 l5
  go_wp2
  go_ret
  exact ⟨rfl, K2.out, T2.out⟩
set_option maxRecDepth 100000 in
set_option maxHeartbeats 2000000 in
theorem write13_w (h : SmIs 117 B BC w a g X c P T st d U) (n : Nat) (hn : n < T.length) (C : CoPre BB X.x c st) (ho : st.s.ops + 1 ≤ 1000000000000) : Calls Tryz.prog 85 #[.pointer (some ⟨X.l, 0, none⟩), .int .i64 n, .int .i64 13] w (NextOk 117 B BC w a g X c P T (coStep c st n, d, if cameK (sv st.T n) (sv (coStep c st n).T n) then 0 else 13) U) := by
  have hnx : n < X.x.n := by rw [h.nT.1]; exact hn
  have HS0 := stepCo h.co C n hnx
  obtain ⟨q, hq⟩ : ∃ q, q = cameK (sv st.T n) (sv (coStep c st n).T n) := ⟨_, rfl⟩
  rw [← hq] at HS0 ⊢
  have HS := Lib.hid HS0
  have l5 := h.cs.2.2.2.2.2.1
  have H := Lib.hid h
  clear h hq HS0
  cases q
  all_goals
    go_enter Tryz.func85, Tryz.ntmps85
    go_wp2_with fail
    refine HS.out.mono ?_
    rintro en w1 ⟨rfl, k3, t3⟩
    have K1 := Lib.hid (H.out.coT t3 k3)
    have T1 := Lib.hid (smS_co (X := X) t3)
    clear k3 t3
    go_wp2
    go_ret
    exact ⟨rfl, K1.out, T1.out⟩
set_option maxRecDepth 100000 in
set_option maxHeartbeats 2000000 in
theorem write7_w (h : SmIs 117 B BC w a g X c P T st d U) (n : Nat) (hn : n < T.length) (C : CoPre BB X.x c st) (hN : 1 ≤ (leavesL P).length) (ho : st.s.ops + 1 ≤ 1000000000000) : Calls Tryz.prog 85 #[.pointer (some ⟨X.l, 0, none⟩), .int .i64 n, .int .i64 7] w (NextOk 117 B BC w a g X c P T (coStep c st n, if cameK (sv st.T n) (sv (coStep c st n).T n) then drBeg d (leavesL P).length false else d, if cameK (sv st.T n) (sv (coStep c st n).T n) then 9 else 7) U) := by
  have hnx : n < X.x.n := by rw [h.nT.1]; exact hn
  have HS0 := stepCo h.co C n hnx
  obtain ⟨q, hq⟩ : ∃ q, q = cameK (sv st.T n) (sv (coStep c st n).T n) := ⟨_, rfl⟩
  rw [← hq] at HS0 ⊢
  have HS := Lib.hid HS0
  have l5 := h.cs.2.2.2.2.2.1
  have H := Lib.hid h
  clear h hq HS0
  cases q
  · go_enter Tryz.func85, Tryz.ntmps85
    go_wp2_with fail
    refine HS.out.mono ?_
    rintro en w1 ⟨rfl, k3, t3⟩
    have K1 := Lib.hid (H.out.coT t3 k3)
    have T1 := Lib.hid (smS_co (X := X) t3)
    clear k3 t3
    go_wp2
    go_ret
    exact ⟨rfl, K1.out, T1.out⟩
  · go_enter Tryz.func85, Tryz.ntmps85
    go_wp2_with fail
    refine HS.out.mono ?_
    rintro en w1 ⟨rfl, k3, t3⟩
    have K1 := Lib.hid (H.out.coT t3 k3)
    have T1 := Lib.hid (smS_co (X := X) t3)
    clear k3 t3
    have K1d := Lib.hid K1.out.drw
    have HB1 := Lib.hid (drBegin (K1d.out).gd hN false)
    have HN1 := Lib.hid (nodesFQ _ X.b P T (K1d.out).tb.f)
    go_wp2_with fail
    go_region_held3 (fun W => W.cell? ⟨X.l, 3, none⟩ = some (.pointer (some ⟨X.dd, 0, none⟩)) ∧ W.cell? ⟨X.l, 1, none⟩ = some (.pointer (some ⟨X.b, 0, none⟩)))
      (first | exact ⟨K1d.out.cs.2.2.2.1, K1d.out.cs.2.1⟩ | exact ⟨K2.out.cs.2.2.2.1, K2.out.cs.2.1⟩)
      (first
        | (go_at_call 51; go_loud (refine HN1.out.mono ?_); rintro en wn ⟨rfl, rfl⟩)
        | (go_at_call 118; go_loud (refine HB1.out.mono ?_); rintro en w2 ⟨rfl, k4, t4⟩; have K2 := Lib.hid (K1d.out.gdT t4 k4); have T2 := Lib.hid (T1.out.drew.trans (smS_gd t4)); clear k4 t4))
    go_wp2
    go_ret
    exact ⟨rfl, K2.out, T2.out⟩
set_option maxRecDepth 100000 in
set_option maxHeartbeats 2000000 in
theorem write9_w (h : SmIs 117 B BC w a g X c P T st d U) (hb : d.busy = true → d.at_ < (leavesL P).length) (n : Nat) (ho : st.s.ops + 1 ≤ 1000000000000) : Calls Tryz.prog 85 #[.pointer (some ⟨X.l, 0, none⟩), .int .i64 n, .int .i64 9] w (NextOk 117 B BC w a g X c P T (onA st (drStep st.s d).1, (drStep st.s d).2.1, if (drStep st.s d).2.2 = true then 10 else 9) U) := by
  obtain ⟨r, hr⟩ : ∃ r, r = drStep st.s d := ⟨_, rfl⟩
  have HD0 := drStepW h.gd hb ho
  rw [← hr] at HD0 ⊢
  obtain ⟨s1, d1, q⟩ := r
  simp only at HD0 ⊢
  have HD := Lib.hid HD0
  have H := Lib.hid h
  clear h hr hb HD0
  cases q
  all_goals
    go_enter Tryz.func85, Tryz.ntmps85
    have d3 := H.out.cs.2.2.2.1
    go_wp2_with fail
    refine HD.out.mono ?_
    rintro en w1 ⟨rfl, k4, t4⟩
    have K1 := Lib.hid (H.out.gdT t4 k4)
    have T1 := Lib.hid (smS_gd (X := X) t4)
    clear k4 t4
    go_wp2
    go_ret
    exact ⟨rfl, K1.out, T1.out⟩
end
end Go.Proofs.YtndipiockdmaoaaGreat
end
section
set_option linter.unusedVariables false
set_option linter.unusedSimpArgs false
/- Layer 38 (writers): Step, over the cohort lock. (printed by gen_sm67.py) -/
namespace Go.Proofs.YtndipiockdmaoaaGreat
open Go.RowKit

section
variable {B BC : Nat → Prop} {w w' w0 : World} {a g : Nat} {X : SmX} {c : CoC} {P T : List Int} {st st' : Co} {d d' : Dr} {U : List Sp} {s' : Ar} {BB : Int}
theorem step_w0 (h : SmIs 117 B BC w a g X c P T st d U) (n : Nat) (hn : n < T.length) (hc : (sv U n).pc = 0 ∨ (sv U n).pc = 10) : Calls Tryz.prog 41 #[.pointer (some ⟨X.l, 0, none⟩), .int .i64 n] w (SmAct 117 B BC w a g X c P T (wsStep c (leavesL P).length ⟨st, d, U⟩ n)) := by
  have hfp := field_pc
  have HS0 := spot_w h n
  have hp := h.thr hn
  have hg : getS U (n : Int) = sv U n := by
    unfold getS sv
    rw [if_pos ⟨by omega, by rw [h.lU]; omega⟩, Int.toNat_natCast]
  rw [hg] at HS0
  have H := Lib.hid h
  have t2 : ¬ (n : Int) < 0 := by omega
  have hn32 := h.nT.2.2.1
  have hx' : wsStep c (leavesL P).length ⟨st, d, U⟩ n = ⟨st, d, U⟩ := by
    unfold wsStep
    rw [if_pos hc]
  obtain ⟨p, hpp⟩ : ∃ p, p = sv U n := ⟨_, rfl⟩
  rw [← hpp] at hc HS0
  have HS := Lib.hid HS0
  have HX := Lib.hid hx'
  clear h hp hpp hx' hg HS0
  obtain ⟨pc, u, b, z⟩ := p
  simp only at hc
  unfold spotV at HS
  rcases hc with rfl | rfl
  all_goals
    go_enter Tryz.func41, Tryz.ntmps41
    go_wp2_with fail
    refine HS.out.mono ?_
    rintro en w1 ⟨rfl, b1⟩
    have HB := Lib.hid b1
    clear b1
    go_wp2
    go_ret
    rw [HX.out]
    exact ⟨_, rfl, (H.out.below HB.out).below ((Below.refl _ _).alloc (Nat.le_refl _) _), (Turns.of_below HB.out).alloc _⟩
theorem step_w_out (h : SmIs 117 B BC w a g X c P T st d U) (i : Int) (hok : ¬ okI U i) : Calls Tryz.prog 41 #[.pointer (some ⟨X.l, 0, none⟩), .int .i64 i] w (SmAct 117 B BC w a g X c P T ⟨st, d, U⟩) := by
  have hfp := field_pc
  have HS0 := spot_w h i
  rw [getS_out hok] at HS0
  have HS := Lib.hid HS0
  have H := Lib.hid h
  clear h hok HS0
  unfold spotV Sp.zero at HS
  go_enter Tryz.func41, Tryz.ntmps41
  go_wp2_with fail
  refine HS.out.mono ?_
  rintro en w1 ⟨rfl, b1⟩
  have HB := Lib.hid b1
  clear b1
  go_wp2
  go_ret
  exact ⟨_, rfl, (H.out.below HB.out).below ((Below.refl _ _).alloc (Nat.le_refl _) _), (Turns.of_below HB.out).alloc _⟩
set_option maxRecDepth 100000 in
set_option maxHeartbeats 4000000 in
theorem step_w_a1 (h : SmIs 117 B BC w a g X c P T st d U) (n : Nat) (hn : n < T.length) (pc b z : Int) (hU : sv U n = ⟨pc, 1, b, z⟩) (hc : pc ≠ 0 ∧ pc ≠ 10)
    (hD : ∀ W, SmIs 117 B BC W a g X c P T st d U → Calls Tryz.prog 86 #[.pointer (some ⟨X.l, 0, none⟩), .int .i64 n, .int .i64 pc] W (NextOk 117 B BC W a g X c P T (wsDoes c (leavesL P).length ⟨st, d, U⟩ n ⟨pc, 1, b, z⟩) U)) : Calls Tryz.prog 41 #[.pointer (some ⟨X.l, 0, none⟩), .int .i64 n] w (SmAct 117 B BC w a g X c P T (wsStep c (leavesL P).length ⟨st, d, U⟩ n)) := by
  have hfp := field_pc
  have HS0 := spot_w h n
  have hp := h.thr hn
  have hg : getS U (n : Int) = sv U n := by
    unfold getS sv
    rw [if_pos ⟨by omega, by rw [h.lU]; omega⟩, Int.toNat_natCast]
  rw [hg] at HS0
  have H := Lib.hid h
  have t2 : ¬ (n : Int) < 0 := by omega
  have hn32 := h.nT.2.2.1
  obtain ⟨r, hr⟩ : ∃ r, r = wsDoes c (leavesL P).length ⟨st, d, U⟩ n ⟨pc, 1, b, z⟩ := ⟨_, rfl⟩
  have hx' : wsStep c (leavesL P).length ⟨st, d, U⟩ n = ⟨r.1, r.2.1, U.set n ⟨r.2.2, 1, b, z⟩⟩ := by
    unfold wsStep
    rw [if_neg (by rw [hU]; simp only; omega), hr, hU]
  rw [← hr] at hD
  rw [hU] at hp HS0
  obtain ⟨s1, d1, v⟩ := r
  simp only at hx'
  have u0 : (pc == 0) = false := by simpa using hc.1
  have u1 : (pc == 10) = false := by simpa using hc.2
  have HX := Lib.hid hx'
  have HS := Lib.hid HS0
  have HP := Lib.hid hp
  have HD := Lib.hid hD
  clear h hp hx' hg HS0 hD hr hU hc
  unfold spotV at HS
  cases v1 : (v == 10) <;> cases v2 : (v == 0)
  all_goals
    go_enter Tryz.func41, Tryz.ntmps41
    go_wp2_with fail
    refine HS.out.mono ?_
    rintro en w1 ⟨rfl, b1⟩
    have K1 := Lib.hid (H.out.below b1)
    have T1 := Lib.hid (Turns.of_below (S := SmS a g X) b1)
    clear b1
    go_upto_region 2 with fail
    obtain ⟨sb, hsb⟩ : ∃ y, y = w1.heap.size := ⟨_, rfl⟩
    obtain ⟨wa, hwa⟩ : ∃ W, W = w1.alloc (.cells #[.int .i64 pc, .int .i64 1, .int .i64 b, .int .i64 z] 46) := ⟨_, rfl⟩
    rw [← hwa, ← hsb]
    have HA1 := Lib.hid (show SmIs 117 B BC wa a g X c P T st d U ∧ Turns (SmS a g X) w wa ∧ Blk wa sb 46 #[.int .i64 pc, .int .i64 1, .int .i64 b, .int .i64 z] ∧ sb ∉ SmS a g X from ⟨by rw [hwa]; exact (K1.out).below ((Below.refl _ _).alloc (Nat.le_refl _) _), by rw [hwa]; exact T1.out.alloc _, by rw [hwa, hsb]; exact Blk.new _ _ _, fun k => by have := K1.out.ltsA _ k; omega⟩)
    clear hwa hsb K1 T1
    have v0 : wa.cell? ⟨sb, 0, none⟩ = some (.int .i64 pc) := HA1.out.2.2.1.cell 0
    have va : wa.cell? ⟨sb, 1, none⟩ = some (.int .i64 1) := HA1.out.2.2.1.cell 1
    go_wp2_with fail
    refine (HD.out _ HA1.out.1).mono ?_
    rintro en w3 ⟨rfl, k3, t3⟩
    have K3 := Lib.hid k3
    have T3 := Lib.hid (HA1.out.2.1.trans t3)
    clear k3 t3
  all_goals
    have e0 := K3.out.sp.cell HP.out 0 _ rfl
    have z0 := K3.out.sp.free (n * 4)
    have d6 := K3.out.cs.2.2.2.2.2.2
    simp only [Nat.add_zero] at e0
    have K4 := Lib.hid (K3.out.put0 HP.out (p' := (⟨v, 1, b, z⟩ : Sp)) (u := .int .i64 v) rfl)
    go_wp2
    go_ret
    rw [HX.out]
    exact ⟨_, rfl, K4.out, T3.out.trans (smS_q _ _)⟩
set_option maxRecDepth 100000 in
set_option maxHeartbeats 4000000 in
theorem step_w_a0 (h : SmIs 117 B BC w a g X c P T st d U) (n : Nat) (hn : n < T.length) (pc b z : Int) (hU : sv U n = ⟨pc, 0, b, z⟩) (hc : pc ≠ 0 ∧ pc ≠ 10)
    (hD : ∀ W, SmIs 117 B BC W a g X c P T st d U → Calls Tryz.prog 85 #[.pointer (some ⟨X.l, 0, none⟩), .int .i64 n, .int .i64 pc] W (NextOk 117 B BC W a g X c P T (wsDoes c (leavesL P).length ⟨st, d, U⟩ n ⟨pc, 0, b, z⟩) U)) : Calls Tryz.prog 41 #[.pointer (some ⟨X.l, 0, none⟩), .int .i64 n] w (SmAct 117 B BC w a g X c P T (wsStep c (leavesL P).length ⟨st, d, U⟩ n)) := by
  have hfp := field_pc
  have HS0 := spot_w h n
  have hp := h.thr hn
  have hg : getS U (n : Int) = sv U n := by
    unfold getS sv
    rw [if_pos ⟨by omega, by rw [h.lU]; omega⟩, Int.toNat_natCast]
  rw [hg] at HS0
  have H := Lib.hid h
  have t2 : ¬ (n : Int) < 0 := by omega
  have hn32 := h.nT.2.2.1
  obtain ⟨r, hr⟩ : ∃ r, r = wsDoes c (leavesL P).length ⟨st, d, U⟩ n ⟨pc, 0, b, z⟩ := ⟨_, rfl⟩
  have hx' : wsStep c (leavesL P).length ⟨st, d, U⟩ n = ⟨r.1, r.2.1, U.set n ⟨r.2.2, 0, b, z⟩⟩ := by
    unfold wsStep
    rw [if_neg (by rw [hU]; simp only; omega), hr, hU]
  rw [← hr] at hD
  rw [hU] at hp HS0
  obtain ⟨s1, d1, v⟩ := r
  simp only at hx'
  have u0 : (pc == 0) = false := by simpa using hc.1
  have u1 : (pc == 10) = false := by simpa using hc.2
  have HX := Lib.hid hx'
  have HS := Lib.hid HS0
  have HP := Lib.hid hp
  have HD := Lib.hid hD
  clear h hp hx' hg HS0 hD hr hU hc
  unfold spotV at HS
  cases v1 : (v == 10) <;> cases v2 : (v == 0)
  all_goals
    go_enter Tryz.func41, Tryz.ntmps41
    go_wp2_with fail
    refine HS.out.mono ?_
    rintro en w1 ⟨rfl, b1⟩
    have K1 := Lib.hid (H.out.below b1)
    have T1 := Lib.hid (Turns.of_below (S := SmS a g X) b1)
    clear b1
    go_upto_region 2 with fail
    obtain ⟨sb, hsb⟩ : ∃ y, y = w1.heap.size := ⟨_, rfl⟩
    obtain ⟨wa, hwa⟩ : ∃ W, W = w1.alloc (.cells #[.int .i64 pc, .int .i64 0, .int .i64 b, .int .i64 z] 46) := ⟨_, rfl⟩
    rw [← hwa, ← hsb]
    have HA1 := Lib.hid (show SmIs 117 B BC wa a g X c P T st d U ∧ Turns (SmS a g X) w wa ∧ Blk wa sb 46 #[.int .i64 pc, .int .i64 0, .int .i64 b, .int .i64 z] ∧ sb ∉ SmS a g X from ⟨by rw [hwa]; exact (K1.out).below ((Below.refl _ _).alloc (Nat.le_refl _) _), by rw [hwa]; exact T1.out.alloc _, by rw [hwa, hsb]; exact Blk.new _ _ _, fun k => by have := K1.out.ltsA _ k; omega⟩)
    clear hwa hsb K1 T1
    have v0 : wa.cell? ⟨sb, 0, none⟩ = some (.int .i64 pc) := HA1.out.2.2.1.cell 0
    have va : wa.cell? ⟨sb, 1, none⟩ = some (.int .i64 0) := HA1.out.2.2.1.cell 1
    go_wp2_with fail
    refine (HD.out _ HA1.out.1).mono ?_
    rintro en w3 ⟨rfl, k3, t3⟩
    have K3 := Lib.hid k3
    have T3 := Lib.hid (HA1.out.2.1.trans t3)
    clear k3 t3
  all_goals
    have e0 := K3.out.sp.cell HP.out 0 _ rfl
    have z0 := K3.out.sp.free (n * 4)
    have d6 := K3.out.cs.2.2.2.2.2.2
    simp only [Nat.add_zero] at e0
    have K4 := Lib.hid (K3.out.put0 HP.out (p' := (⟨v, 0, b, z⟩ : Sp)) (u := .int .i64 v) rfl)
    go_wp2
    go_ret
    rw [HX.out]
    exact ⟨_, rfl, K4.out, T3.out.trans (smS_q _ _)⟩
theorem step_wAll (h : SmIs 117 B BC w a g X c P T st d U) (n : Nat) (hn : n < T.length) (hc : linkW (sv U n) (sv st.T n)) (ho : st.s.ops + 1 ≤ 1000000000000) (hN : 1 ≤ (leavesL P).length) (hb : ((sv U n).a = 0 → (sv U n).pc = 9 → d.busy = true → d.at_ < (leavesL P).length)) (C : CoPre BB X.x c st) :
    Calls Tryz.prog 41 #[.pointer (some ⟨X.l, 0, none⟩), .int .i64 n] w (SmAct 117 B BC w a g X c P T (wsStep c (leavesL P).length ⟨st, d, U⟩ n)) := by
  obtain ⟨p, hpp⟩ : ∃ p, p = sv U n := ⟨_, rfl⟩
  have hcs : p.pc = 0 ∨ p.pc = 10 ∨ (p.a = 1 ∧ p.pc = 1) ∨ (p.a = 1 ∧ p.pc = 2) ∨ (p.a = 1 ∧ p.pc = 3) ∨ (p.a = 1 ∧ p.pc = 4) ∨ (p.a = 1 ∧ p.pc = 11) ∨ (p.a = 0 ∧ p.pc = 5) ∨ (p.a = 0 ∧ p.pc = 7) ∨ (p.a = 0 ∧ p.pc = 9) ∨ (p.a = 0 ∧ p.pc = 12) ∨ (p.a = 0 ∧ p.pc = 13) := by
    rw [← hpp] at hc
    unfold linkW at hc
    rcases hc with ⟨q1, _⟩ | ⟨q1, q2, _⟩ | ⟨q1, q2, _⟩ | ⟨q1, q2, _⟩ | ⟨q1, q2, _⟩ | ⟨q1, q2, _⟩
    all_goals omega
  have hb' := hb
  rw [← hpp] at hb'
  obtain ⟨pc, u, b, z⟩ := p
  have hpc : (sv U n).pc = pc := by rw [← hpp]
  simp only at hcs hb'
  have hnd := h.nodeA hn
  rcases hcs with rfl | rfl | ⟨rfl, rfl⟩ | ⟨rfl, rfl⟩ | ⟨rfl, rfl⟩ | ⟨rfl, rfl⟩ | ⟨rfl, rfl⟩ | ⟨rfl, rfl⟩ | ⟨rfl, rfl⟩ | ⟨rfl, rfl⟩ | ⟨rfl, rfl⟩ | ⟨rfl, rfl⟩
  · exact step_w0 h n hn (.inl hpc)
  · exact step_w0 h n hn (.inr hpc)
  · exact step_w_a1 h n hn _ b z hpp.symm (by decide) (fun W k => read1_w k n hn hnd.1 hnd.2 ho)
  · exact step_w_a1 h n hn _ b z hpp.symm (by decide) (fun W k => read2_w k n hn hnd.1 hnd.2 ho)
  · exact step_w_a1 h n hn _ b z hpp.symm (by decide) (fun W k => read3_w k n hn hnd.1 hnd.2 ho)
  · refine step_w_a1 h n hn _ b z hpp.symm (by decide) (fun W k => ?_)
    have k9 := read4_w k n hn hnd.1 hnd.2 ho
    rw [show 2 * ((c.node n : Nat) : Int) + 1 + 1 = gaW (c.node n) by unfold gaW; omega] at k9
    exact k9
  · refine step_w_a1 h n hn _ b z hpp.symm (by decide) (fun W k => ?_)
    have k9 := read11_w k n hn hnd.1 hnd.2 ho
    rw [show 2 * ((c.node n : Nat) : Int) + 1 + 1 = gaW (c.node n) by unfold gaW; omega] at k9
    exact k9
  · exact step_w_a0 h n hn _ b z hpp.symm (by decide) (fun W k => write5_w k n hn ho)
  · exact step_w_a0 h n hn _ b z hpp.symm (by decide) (fun W k => write7_w k n hn C hN ho)
  · exact step_w_a0 h n hn _ b z hpp.symm (by decide) (fun W k => write9_w k (hb' rfl rfl) n ho)
  · exact step_w_a0 h n hn _ b z hpp.symm (by decide) (fun W k => write12_w k n hn ho)
  · exact step_w_a0 h n hn _ b z hpp.symm (by decide) (fun W k => write13_w k n hn C ho)
end
end Go.Proofs.YtndipiockdmaoaaGreat
end
section
set_option linter.unusedVariables false
set_option linter.unusedSimpArgs false
/- Layer 38 (writers): the law's helpers over the cohort lock: do, in, made. (printed by gen_sm9.py) -/
namespace Go.Proofs.YtndipiockdmaoaaGreat
open Go.RowKit

section
variable {B BC : Nat → Prop} {w w' : World} {a g : Nat} {X : SmX} {c : CoC} {P T : List Int} {st : Co} {d : Dr} {U : List Sp} {L : Nat} {BB : Int}
theorem stepI_w (h : SmIs 117 B BC w a g X c P T st d U) (hs : WsS c T.length (leavesL P).length L (mtQ P T) BB ⟨st, d, U⟩) (hk : NuK c T.length (leavesL P).length L (mtQ P T)) (hB : 40 ≤ BB ∧ BB ≤ 10000000000) (ho : st.s.ops + 1 ≤ 1000000000000) (i : Int) :
    Calls Tryz.prog 41 #[.pointer (some ⟨X.l, 0, none⟩), .int .i64 i] w (SmAct 117 B BC w a g X c P T (actWs c (leavesL P).length ⟨st, d, U⟩ 0 i)) := by
  unfold actWs
  by_cases hok : okI U i
  · rw [if_pos hok]
    obtain ⟨h0, h1⟩ := id hok
    rw [h.lU] at h1
    obtain ⟨n, rfl⟩ := Int.eq_ofNat_of_zero_le h0
    have hn : n < T.length := by omega
    have C := CoOk.pre (x := X.x) (by rw [h.nT.1]; exact hs.ok) (by rw [h.nT.1, h.nT.2.1]; exact hk.w) h.co.fx hB.1 hB.2 ho
    exact step_wAll h n hn (hs.i.k n hn) ho hk.N1 (fun ha h9 _ => (hs.i.dr n hn ha h9).1.2.2.1) C
  · rw [if_neg hok]
    exact step_w_out h i hok
theorem askFI_w (h : SmIs 117 B BC w a g X c P T st d U) (hs : WsS c T.length (leavesL P).length L (mtQ P T) BB ⟨st, d, U⟩) (hk : NuK c T.length (leavesL P).length L (mtQ P T)) (hB : 40 ≤ BB ∧ BB ≤ 10000000000) (ho : st.s.ops + 1 ≤ 1000000000000) (i : Int) :
    Calls Tryz.prog 73 #[.pointer (some ⟨X.l, 0, none⟩), .int .i64 i, .bool false] w (SmAct 117 B BC w a g X c P T (actWs c (leavesL P).length ⟨st, d, U⟩ 1 i)) := by
  unfold actWs
  by_cases hok : okI U i
  · rw [if_pos hok]
    obtain ⟨h0, h1⟩ := id hok
    rw [h.lU] at h1
    obtain ⟨n, rfl⟩ := Int.eq_ofNat_of_zero_le h0
    have hn : n < T.length := by omega
    exact ask_w h n hn false
  · rw [if_neg hok]
    exact ask_w_out h i hok false
theorem leaveI_w (h : SmIs 117 B BC w a g X c P T st d U) (hs : WsS c T.length (leavesL P).length L (mtQ P T) BB ⟨st, d, U⟩) (hk : NuK c T.length (leavesL P).length L (mtQ P T)) (hB : 40 ≤ BB ∧ BB ≤ 10000000000) (ho : st.s.ops + 1 ≤ 1000000000000) (i : Int) :
    Calls Tryz.prog 42 #[.pointer (some ⟨X.l, 0, none⟩), .int .i64 i] w (SmAct 117 B BC w a g X c P T (actWs c (leavesL P).length ⟨st, d, U⟩ 2 i)) := by
  unfold actWs
  by_cases hok : okI U i
  · rw [if_pos hok]
    obtain ⟨h0, h1⟩ := id hok
    rw [h.lU] at h1
    obtain ⟨n, rfl⟩ := Int.eq_ofNat_of_zero_le h0
    have hn : n < T.length := by omega
    refine leave_w h n hn (fun h10 => ?_)
    have hl := hs.i.k n hn
    unfold linkW at hl
    simp only at hl
    omega
  · rw [if_neg hok]
    exact leave_w_out h i hok
theorem askTI_w (h : SmIs 117 B BC w a g X c P T st d U) (hs : WsS c T.length (leavesL P).length L (mtQ P T) BB ⟨st, d, U⟩) (hk : NuK c T.length (leavesL P).length L (mtQ P T)) (hB : 40 ≤ BB ∧ BB ≤ 10000000000) (ho : st.s.ops + 1 ≤ 1000000000000) (i : Int) :
    Calls Tryz.prog 73 #[.pointer (some ⟨X.l, 0, none⟩), .int .i64 i, .bool true] w (SmAct 117 B BC w a g X c P T (actWs c (leavesL P).length ⟨st, d, U⟩ 3 i)) := by
  unfold actWs
  by_cases hok : okI U i
  · rw [if_pos hok]
    obtain ⟨h0, h1⟩ := id hok
    rw [h.lU] at h1
    obtain ⟨n, rfl⟩ := Int.eq_ofNat_of_zero_le h0
    have hn : n < T.length := by omega
    exact ask_w h n hn true
  · rw [if_neg hok]
    exact ask_w_out h i hok true
set_option maxHeartbeats 1000000 in
theorem doS_w (h : SmIs 117 B BC w a g X c P T st d U) (hs : WsS c T.length (leavesL P).length L (mtQ P T) BB ⟨st, d, U⟩) (hk : NuK c T.length (leavesL P).length L (mtQ P T)) (hB : 40 ≤ BB ∧ BB ≤ 10000000000) (ho : st.s.ops + 1 ≤ 1000000000000) (kd i : Int) :
    Calls Tryz.prog 33 #[.pointer (some ⟨X.l, 0, none⟩), .agg #[.int .i64 kd, .int .i64 i]] w (SmAct 117 B BC w a g X c P T (actWs c (leavesL P).length ⟨st, d, U⟩ kd i)) := by
  have hd : Below w.heap.size w (w.alloc (.cells #[.int .i64 kd, .int .i64 i] 59)) := (Below.refl _ _).alloc (Nat.le_refl _) _
  have HW := Lib.hid (And.intro (h.below hd) hd)
  have HS := Lib.hid (And.intro hs (And.intro hk hB))
  clear h hd hs hk hB
  by_cases k0 : kd = 0
  · subst k0
    go_enter Tryz.func33, Tryz.ntmps33
    go_wp2_with fail
    refine (stepI_w HW.out.1 HS.out.1 HS.out.2.1 HS.out.2.2 ho i).mono ?_
    rintro en w1 ⟨b, rfl, h1, h4⟩
    have H1 := Lib.hid (And.intro h1 h4)
    clear h1 h4
    go_wp2
    go_ret
    exact ⟨_, rfl, H1.out.1, (Turns.of_below HW.out.2).trans H1.out.2⟩
  have u0 : (kd == 0) = false := by simpa using k0
  by_cases k1 : kd = 1
  · subst k1
    clear k0 u0
    go_enter Tryz.func33, Tryz.ntmps33
    go_wp2_with fail
    refine (askFI_w HW.out.1 HS.out.1 HS.out.2.1 HS.out.2.2 ho i).mono ?_
    rintro en w1 ⟨b, rfl, h1, h4⟩
    have H1 := Lib.hid (And.intro h1 h4)
    clear h1 h4
    go_wp2
    go_ret
    exact ⟨_, rfl, H1.out.1, (Turns.of_below HW.out.2).trans H1.out.2⟩
  have u1 : (kd == 1) = false := by simpa using k1
  by_cases k2 : kd = 2
  · subst k2
    clear k0 k1 u0 u1
    go_enter Tryz.func33, Tryz.ntmps33
    go_wp2_with fail
    refine (leaveI_w HW.out.1 HS.out.1 HS.out.2.1 HS.out.2.2 ho i).mono ?_
    rintro en w1 ⟨b, rfl, h1, h4⟩
    have H1 := Lib.hid (And.intro h1 h4)
    clear h1 h4
    go_wp2
    go_ret
    exact ⟨_, rfl, H1.out.1, (Turns.of_below HW.out.2).trans H1.out.2⟩
  have u2 : (kd == 2) = false := by simpa using k2
  by_cases k3 : kd = 3
  · subst k3
    clear k0 k1 k2 u0 u1 u2
    go_enter Tryz.func33, Tryz.ntmps33
    go_wp2_with fail
    refine (askTI_w HW.out.1 HS.out.1 HS.out.2.1 HS.out.2.2 ho i).mono ?_
    rintro en w1 ⟨b, rfl, h1, h4⟩
    have H1 := Lib.hid (And.intro h1 h4)
    clear h1 h4
    go_wp2
    go_ret
    exact ⟨_, rfl, H1.out.1, (Turns.of_below HW.out.2).trans H1.out.2⟩
  have u3 : (kd == 3) = false := by simpa using k3
  have e : actWs c (leavesL P).length ⟨st, d, U⟩ kd i = ⟨st, d, U⟩ := by
    unfold actWs
    rw [if_neg k0, if_neg k1, if_neg k2, if_neg k3]
    split <;> rfl
  rw [e]
  clear e k0 k1 k2 k3
  go_enter Tryz.func33, Tryz.ntmps33
  go_wp2
  go_ret
  exact ⟨_, rfl, HW.out.1, Turns.of_below HW.out.2⟩
/-- one writer at most, and no reader beside it -/
theorem WsI.cnt {c : CoC} {n N : Nat} {ml : Nat → Nat} {x : Nu} (h : WsI c n N ml x) (y : CoLy c n N ml) : cntN n (wrH x.U) = 0 ∨ cntN n (wrH x.U) = 1 ∧ cntN n (rdH x.U) = 0 := by
  by_cases h0 : cntN n (wrH x.U) = 0
  · exact .inl h0
  · right
    obtain ⟨i, hi, hw⟩ := cntN_ex n (by omega : 0 < cntN n (wrH x.U))
    have hw' := of_decide_eq_true hw
    have one : ∀ j, j < n → (sv x.U j).pc = 10 → j = i ∧ (sv x.U j).a = 0 := fun j hj h10 => h.safe y hi hw'.1 hw'.2 hj h10
    have e1 : cntN n (wrH x.U) = cntN n (fun j => decide (j = i) && wrH x.U j) := (cntN_same n (fun j hj => by
      by_cases hb : wrH x.U j = true
      · have := one j hj (of_decide_eq_true hb).1
        simp [this.1]
      · simp at hb; simp [hb])).symm
    have e2 := cntN_uni (P := fun j => decide (j = i) && wrH x.U j) (i := i) (fun j hj => by simp at hj; exact hj.1) n
    refine ⟨by omega, ?_⟩
    by_cases h1 : cntN n (rdH x.U) = 0
    · exact h1
    · obtain ⟨j, hj, hr⟩ := cntN_ex n (by omega : 0 < cntN n (rdH x.U))
      have hr' := of_decide_eq_true hr
      have := one j hj hr'.1
      omega
set_option maxHeartbeats 1000000 in
theorem inS_w (h : SmIs 117 B BC w a g X c P T st d U) (hs : WsS c T.length (leavesL P).length L (mtQ P T) BB ⟨st, d, U⟩) :
    Calls Tryz.prog 34 #[.pointer (some ⟨X.l, 0, none⟩), .int .i64 T.length] w fun e w' => e = .returned (.tuple #[.int .i64 (cntN T.length (rdH U) : Nat), .int .i64 (cntN T.length (wrH U) : Nat)]) ∧ Below w.heap.size w w' := by
  have H := Lib.hid h
  have HS := Lib.hid hs
  have hn32 := h.nT.2.2.1
  clear h hs
  go_enter Tryz.func34, Tryz.ntmps34
  go_wp2
  go_loopw [6, 7, 8] (fun rd wt kk wr => ∃ (j r v : Nat), kk = .int .i64 j ∧ j ≤ T.length ∧ rd = .int .i64 r ∧ wt = .int .i64 v ∧ r = cntN j (rdH U) ∧ v = cntN j (wrH U) ∧ Below w.heap.size w wr) (fun _ _ kk _ => T.length - (intOf kk).toNat)
  case atStart => exact ⟨0, 0, 0, rfl, by omega, rfl, rfl, rfl, rfl, Below.refl _ _⟩
  case round =>
    obtain ⟨j, r, v, rfl, hj, rfl, rfl, hr, hv, hb⟩ := hrel
    obtain ⟨wo, rfl⟩ : ∃ wo : World, wo = wr := ⟨_, rfl⟩
    have HB := Lib.hid hb
    have hsz := hb.size
    have hr9 : r ≤ j := by rw [hr]; exact cntN_le _ _
    have hv9 : v ≤ j := by rw [hv]; exact cntN_le _ _
    clear hb
    by_cases hjs : j < T.length
    · have hg : getS U (j : Int) = sv U j := getQ_nat (by rw [H.out.lU]; exact hjs)
      have HSp := Lib.hid (spot_w (H.out.below HB.out) (j : Int))
      rw [hg] at HSp
      have hlk := HS.out.i.k j hjs
      have HR := Lib.hid (show cntN (j + 1) (rdH U) = r + (if (sv U j).pc = 10 ∧ (sv U j).a = 1 then 1 else 0) ∧ cntN (j + 1) (wrH U) = v + (if (sv U j).pc = 10 ∧ (sv U j).a = 0 then 1 else 0) from by
        exact ⟨by rw [cntN_succ, hr]; simp only [rdH, decide_eq_true_eq], by rw [cntN_succ, hv]; simp only [wrH, decide_eq_true_eq]⟩)
      have hcs : (sv U j).pc ≠ 10 ∨ ((sv U j).pc = 10 ∧ ((sv U j).a = 0 ∨ (sv U j).a = 1)) := by
        unfold linkW at hlk
        simp only at hlk
        omega
      obtain ⟨p, hp⟩ : ∃ p, p = sv U j := ⟨_, rfl⟩
      rw [← hp] at HSp HR hcs
      clear hg hp hlk hr hv
      obtain ⟨pc, u, b, z⟩ := p
      simp only at HR hcs
      rcases hcs with hne | ⟨rfl, rfl | rfl⟩
      · have e10 : (pc == 10) = false := by simpa using hne
        have f1 : cntN (j + 1) (rdH U) = r := by rw [HR.out.1, if_neg (fun q => hne q.1)]; rfl
        have f2 : cntN (j + 1) (wrH U) = v := by rw [HR.out.2, if_neg (fun q => hne q.1)]; rfl
        have HF := Lib.hid (And.intro f1 f2)
        clear f1 f2 hne HR
        go_wp2_with fail
        refine HSp.out.mono ?_
        rintro en w1 ⟨rfl, b1⟩
        unfold spotV
        have HB1 := Lib.hid (HB.out.trans (b1.mono hsz))
        have hs1 : w.heap.size ≤ w1.heap.size := HB1.out.size
        have HBa := Lib.hid (fun o : Obj => HB1.out.alloc hs1 o)
        clear b1
        go_wp2
        go_roundw
        case rel => exact ⟨j + 1, r, v, by go_num, by omega, rfl, rfl, HF.out.1.symm, HF.out.2.symm, HBa.out _⟩
        case measure => simp [intOf]; omega
      · have f1 : cntN (j + 1) (rdH U) = r := by rw [HR.out.1, if_neg (by omega)]; rfl
        have f2 : cntN (j + 1) (wrH U) = v + 1 := by rw [HR.out.2, if_pos ⟨rfl, rfl⟩]
        have HF := Lib.hid (And.intro f1 f2)
        clear f1 f2 HR
        go_wp2_with fail
        refine HSp.out.mono ?_
        rintro en w1 ⟨rfl, b1⟩
        unfold spotV
        have HB1 := Lib.hid (HB.out.trans (b1.mono hsz))
        have hs1 : w.heap.size ≤ w1.heap.size := HB1.out.size
        have HBa := Lib.hid (fun o : Obj => HB1.out.alloc hs1 o)
        clear b1
        go_wp2
        go_roundw
        case rel => exact ⟨j + 1, r, v + 1, by go_num, by omega, rfl, by go_num, HF.out.1.symm, HF.out.2.symm, HBa.out _⟩
        case measure => simp [intOf]; omega
      · have f1 : cntN (j + 1) (rdH U) = r + 1 := by rw [HR.out.1, if_pos ⟨rfl, rfl⟩]
        have f2 : cntN (j + 1) (wrH U) = v := by rw [HR.out.2, if_neg (by omega)]; rfl
        have HF := Lib.hid (And.intro f1 f2)
        clear f1 f2 HR
        go_wp2_with fail
        refine HSp.out.mono ?_
        rintro en w1 ⟨rfl, b1⟩
        unfold spotV
        have HB1 := Lib.hid (HB.out.trans (b1.mono hsz))
        have hs1 : w.heap.size ≤ w1.heap.size := HB1.out.size
        have HBa := Lib.hid (fun o : Obj => HB1.out.alloc hs1 o)
        clear b1
        go_wp2
        go_roundw
        case rel => exact ⟨j + 1, r + 1, v, by go_num, by omega, by go_num, rfl, HF.out.1.symm, HF.out.2.symm, HBa.out _⟩
        case measure => simp [intOf]; omega
    · obtain rfl : j = T.length := by omega
      subst hr
      subst hv
      go_wp2
      go_ret2
      exact ⟨rfl, HB.out⟩
end
structure SmStW (w0 w : World) (B BC : Nat → Prop) (a g : Nat) (X : SmX) (c : CoC) (P T : List Int) (L : Nat) (x : Nu) (BB : Int) (M : Nat) : Prop where
  is : SmIs 117 B BC w a g X c P T x.st x.d x.U
  s : WsS c T.length (leavesL P).length L (mtQ P T) BB x
  bel : Below w0.heap.size w0 w
  hl : ∀ i ∈ SmS a g X, w0.heap.size ≤ i
  op : x.st.s.ops ≤ M
theorem SmStW.below {w0 w w' : World} {B BC : Nat → Prop} {a g : Nat} {X : SmX} {c : CoC} {P T : List Int} {L M : Nat} {x : Nu} {BB : Int} (h : SmStW w0 w B BC a g X c P T L x BB M) (k : Below w.heap.size w w') : SmStW w0 w' B BC a g X c P T L x BB M := ⟨h.is.below k, h.s, h.bel.trans (k.mono h.bel.size), h.hl, h.op⟩
/-- an act -/
theorem SmStW.act {w0 w w' : World} {B BC : Nat → Prop} {a g : Nat} {X : SmX} {c : CoC} {P T : List Int} {L M : Nat} {x : Nu} {BB : Int} (h : SmStW w0 w B BC a g X c P T L x BB M) (hk : NuK c T.length (leavesL P).length L (mtQ P T)) (hB : 40 ≤ BB ∧ BB ≤ 10000000000) {kd i : Int} (k : SmIs 117 B BC w' a g X c P T (actWs c (leavesL P).length x kd i).st (actWs c (leavesL P).length x kd i).d (actWs c (leavesL P).length x kd i).U) (t : Turns (SmS a g X) w w') :
    SmStW w0 w' B BC a g X c P T L (actWs c (leavesL P).length x kd i) (BB + 4) (M + 1) ∧ (actWs c (leavesL P).length x kd i).st.s.ops ≤ x.st.s.ops + 1 ∧ (kd ≠ 0 → (actWs c (leavesL P).length x kd i).st.s.ops = x.st.s.ops) := by
  have q := h.s.act hk hB.1 (by omega) kd i
  exact ⟨⟨k, q.1, h.bel.trans (t.below h.hl h.bel.size), h.hl, by have := h.op; omega⟩, q.2⟩
set_option maxRecDepth 100000 in
theorem madeNoS_w (w : World) (vP vT : Value) (a0 a1 a2 : Int) (hs : SmNo w vP vT 8) :
    Calls Tryz.prog 32 #[.agg #[vP, vT], .agg #[.int .u8 a0, .int .u8 a1, .int .u8 a2]] w fun e w' => e = .returned (.tuple #[.pointer none, .pointer none, .bool false]) ∧ Below w.heap.size w w' := by
  have HB0 := Lib.hid (((Below.refl w.heap.size w).alloc (Nat.le_refl _) (.cells #[vP, vT] 29)).alloc (by simp) (.cells #[.int .u8 a0, .int .u8 a1, .int .u8 a2] 50))
  have H := Lib.hid (hs _ HB0.out)
  clear hs
  go_enter Tryz.func32, Tryz.ntmps32
  go_wp2_with fail
  refine H.out.mono ?_
  rintro en w1 ⟨rfl, b1⟩
  have HB1 := Lib.hid (HB0.out.trans (b1.mono HB0.out.size))
  clear b1
  go_wp2
  go_ret3
  exact ⟨rfl, HB1.out⟩
set_option maxRecDepth 100000 in
set_option maxHeartbeats 2000000 in
theorem madeYesS_w (w : World) (vP vT : Value) (P T : List Int) (hP : RdL w vP 1 encI P) (hT : RdL w vT 1 encI T) (a0 a1 a2 : Nat) (h0 : a0 < 256) (h1 : a1 < 256) (h2 : a2 < 256) (hs : smallB P T 8 = true) :
    Calls Tryz.prog 32 #[.agg #[vP, vT], .agg #[.int .u8 a0, .int .u8 a1, .int .u8 a2]] w fun e w' => ∃ (a g : Nat) (B BC : Nat → Prop) (X : SmX) (c : CoC) (L : Nat) (x : Nu), e = .returned (.tuple #[.pointer (some ⟨a, 0, none⟩), .pointer (some ⟨X.l, 0, none⟩), .bool true]) ∧ NuK c T.length (leavesL P).length L (mtQ P T) ∧ SmStW w w' B BC a g X c P T L x 40 2000 := by
  have hck : chkT P T = 0 ∧ (T.length : Int) ≤ 8 := of_decide_eq_true hs
  have hml := many_lt (chk_ok hck.1).1
  have HBL := Lib.hid (And.intro (fun g' (hg' : vP.ownBlock = some g') => rd_block hP (by omega) hg') (fun g' (hg' : vT.ownBlock = some g') => rd_block hT (by omega) hg'))
  have HS := smallH ((w.alloc (.cells #[vP, vT] 29)).alloc (.cells #[.int .u8 a0, .int .u8 a1, .int .u8 a2] 50)) vP vT P T ((hP.alloc _).alloc _) ((hT.alloc _).alloc _) 8
  rw [hs] at HS
  have H := Lib.hid HS
  have HB0 := Lib.hid (((Below.refl w.heap.size w).alloc (Nat.le_refl _) (.cells #[vP, vT] 29)).alloc (by simp) (.cells #[.int .u8 a0, .int .u8 a1, .int .u8 a2] 50))
  have HRD := Lib.hid (And.intro hP hT)
  have hbt := (Blk.new w 29 #[vP, vT]).alloc (.cells #[.int .u8 a0, .int .u8 a1, .int .u8 a2] 50)
  have hbn := Blk.new (w.alloc (.cells #[vP, vT] 29)) 50 #[.int .u8 a0, .int .u8 a1, .int .u8 a2]
  rw [show (w.alloc (.cells #[vP, vT] 29)).heap.size = w.heap.size + 1 by simp] at hbn
  obtain ⟨w0, hw0⟩ : ∃ W, W = (w.alloc (.cells #[vP, vT] 29)).alloc (.cells #[.int .u8 a0, .int .u8 a1, .int .u8 a2] 50) := ⟨_, rfl⟩
  rw [← hw0] at H HB0 hbt hbn
  have HX := Lib.hid (And.intro hbt hbn)
  have HCK := Lib.hid hck
  clear HS hs hP hT hck hbt hbn hml
  go_enter Tryz.func32, Tryz.ntmps32
  go_upto_region 1 with fail
  rw [← hw0]
  clear hw0
  have f0 : w0.cell? ⟨w.heap.size, 0, none⟩ = some vP := HX.out.1.cell 0
  have f1 : w0.cell? ⟨w.heap.size, 1, none⟩ = some vT := HX.out.1.cell 1
  go_wp2_with fail
  refine H.out.mono ?_
  rintro en w1 ⟨rfl, b1⟩
  have HX1 := Lib.hid (And.intro (HX.out.1.below b1 HX.out.1.lt) (HX.out.2.below b1 HX.out.2.lt))
  have HB1 := Lib.hid (HB0.out.trans (b1.mono HB0.out.size))
  clear b1 f0 f1
  go_wp2_with fail
  refine (newA_any _ 4096).mono ?_
  rintro en w2 ⟨a, g, rfl, hA, ha, hg, hb⟩
  have hX2 := And.intro (HX1.out.1.below hb HX1.out.1.lt) (HX1.out.2.below hb HX1.out.2.lt)
  have f0 : w2.cell? ⟨w.heap.size, 0, none⟩ = some vP := hX2.1.cell 0
  have f1 : w2.cell? ⟨w.heap.size, 1, none⟩ = some vT := hX2.1.cell 1
  have n0 : w2.cell? ⟨w.heap.size + 1, 0, none⟩ = some (.int .u8 a0) := hX2.2.cell 0
  have n1 : w2.cell? ⟨w.heap.size + 1, 1, none⟩ = some (.int .u8 a1) := hX2.2.cell 1
  have n2 : w2.cell? ⟨w.heap.size + 1, 2, none⟩ = some (.int .u8 a2) := hX2.2.cell 2
  have HA := Lib.hid (And.intro hA (And.intro ha (And.intro hg (HB1.out.trans (hb.mono HB1.out.size)))))
  have x1 : IntKind.i64.wrap (1 + (a0 : Int) % 5) = 1 + (a0 : Int) % 5 := IntWalk.i64_in _ (by omega)
  have x2 : IntKind.i64.wrap (1 + (a1 : Int) % 5) = 1 + (a1 : Int) % 5 := IntWalk.i64_in _ (by omega)
  have x3 : IntKind.i64.wrap (1 + (a2 : Int) / 4 % 4) = 1 + (a2 : Int) / 4 % 4 := IntWalk.i64_in _ (by omega)
  clear hA ha hg hb hX2
  have epar : 1 + (a2 : Int) / 4 % 4 = ((1 + a2 / 4 % 4 : Nat) : Int) := by omega
  have ekg : 1 + (a0 : Int) % 5 = ((1 + a0 % 5 : Nat) : Int) := by omega
  have ekl : 1 + (a1 : Int) % 5 = ((1 + a1 % 5 : Nat) : Int) := by omega
  have HN := Lib.hid (newS_w HA.out.1 rfl HA.out.1.ne vP vT P T (HRD.out.1.below HA.out.2.2.2 (Nat.le_refl _)) (HRD.out.2.below HA.out.2.2.2 (Nat.le_refl _)) (fun i hi => by have := HBL.out.1 i hi; have := HA.out.2.1; have := HB1.out.size; have := HA.out.2.2.2.size; omega) (fun i hi => by have := HBL.out.2 i hi; have := HA.out.2.1; have := HB1.out.size; have := HA.out.2.2.2.size; omega) HCK.out.1 (1 + a0 % 5) (1 + a1 % 5) (KOk.of (by omega)) (KOk.of (by omega)) (1 + a2 / 4 % 4) (by omega) ((a2 : Int) % 4) (by omega) rfl (by show 0 ≤ 1000; omega))
  rw [← epar, ← ekg, ← ekl] at HN
  clear epar ekg ekl
  go_wp2_with fail
  refine HN.out.mono ?_
  rintro en w3 ⟨B, BC, X, rfl, k3, hS, t3⟩
  have HK := Lib.hid (And.intro k3 (And.intro hS t3))
  clear k3 hS t3 f0 f1 n0 n1 n2 x1 x2 x3 HN
  go_wp2
  go_ret3
  have s2 := HA.out.2.2.2.size
  have s6 := HA.out.2.1
  have s7 := HA.out.2.2.1
  have sb := HB1.out.size
  obtain ⟨k3, hS, t3⟩ := HK.out
  have hml := many_lt (chk_ok HCK.out.1).1
  have hN1 : 1 ≤ (leavesL P).length := by
    obtain ⟨y, hy⟩ := getElem?_lt (show 0 < T.length by omega)
    exact List.length_pos_of_mem (thr_mem (chk_ok HCK.out.1).2.2.2 hy)
  have hK := nu_k (s := newAr 4096) (kg := 1 + a0 % 5) (kl := 1 + a1 % 5) (par := 1 + a2 / 4 % 4) (bud := (a2 : Int) % 4) HCK.out.1 (by omega) (by omega) (by omega) rfl hN1
  have hU := ws_s (s := newAr 4096) (kg := 1 + a0 % 5) (kl := 1 + a1 % 5) (par := 1 + a2 / 4 % 4) (bud := (a2 : Int) % 4) HCK.out.1 (by omega) (by omega) (by omega) rfl
  refine ⟨a, g, B, BC, X, _, _, _, rfl, hK, ⟨k3, hU.1, ?_, fun i hi => ?_, ?_⟩⟩
  · exact HA.out.2.2.2.trans (t3.below (by simp; omega) s2)
  · have := hS i hi
    omega
  · have h2 := hU.2
    have h3 : (newAr 4096).ops = 0 := rfl
    show (coStN _ _ _ _ _ _).s.ops ≤ 2000
    omega
end Go.Proofs.YtndipiockdmaoaaGreat
end
section
set_option linter.unusedVariables false
set_option linter.unusedSimpArgs false
/- Running closed code: the seat's own functions without a body, its Once; awake() of kissgatelaw38. -/
namespace Go.Proofs.YtndipiockdmaoaaGreat
open Go.RowKit

def extA38 : ExtF := extOr (extL 156 .u32) (extOr (extL 138 .i64) (extOr (extW 152 .i64) (extOr (extG 155 .i64 (gAdd .i64)) (extOr (extG 245 .i64 (gSwap .i64)) (extG 205 .i64 (gCas .i64))))))
def spA38 : SpF := spOnce 150 133
theorem extA_ok38 : ExtS Tryz.prog extA38 := extOr_ok (extL_ok fun a x w hc => run_call_load Tryz.func156 (by kernel_rfl) (by kernel_rfl) (by kernel_rfl) .u32 (by kernel_rfl) hc) (extOr_ok (extL_ok fun a x w hc => run_call_load Tryz.func138 (by kernel_rfl) (by kernel_rfl) (by kernel_rfl) .i64 (by kernel_rfl) hc) (extOr_ok (extW_ok fun a u y w hc hz => run_call_store Tryz.func152 (by kernel_rfl) (by kernel_rfl) (by kernel_rfl) (by kernel_rfl) hc hz) (extOr_ok (extG_ok (gAdd_ok Tryz.func155 (by kernel_rfl) (by kernel_rfl) (by kernel_rfl) .i64 (by kernel_rfl))) (extOr_ok (extG_ok (gSwap_ok Tryz.func245 (by kernel_rfl) (by kernel_rfl) (by kernel_rfl) .i64 (by kernel_rfl))) (extG_ok (gCas_ok Tryz.func205 (by kernel_rfl) (by kernel_rfl) (by kernel_rfl) .i64 (by kernel_rfl)))))))
theorem spA_ok38 : SpS Tryz.prog spA38 := spOnce_ok once_find
set_option maxRecDepth 1000000 in
theorem awakes38 : awakes Tryz.prog extA38 spA38 (drawR Tryz.prog extA38) 3000 31 = true := by decide +kernel
theorem awake38 (w : World) : Calls Tryz.prog 31 #[] w fun e w' => e = .returned (.bool true) ∧ Below w.heap.size w w' := awakes_ok extA_ok38 spA_ok38 (drawR_ok _ _ extA_ok38) awakes38 w
end Go.Proofs.YtndipiockdmaoaaGreat
end
