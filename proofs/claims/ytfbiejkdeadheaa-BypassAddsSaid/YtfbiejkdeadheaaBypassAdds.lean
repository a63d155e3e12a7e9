/- BypassAdds: for every list of nodes, every list of events and any four numbers from 0 to 255 the law returns true, and its arguments read as they did. No further conditions. -/
import Derived.Test.YtfbiejkdeadheaaRows
import Derived.WalkKit
import Derived.ProofKit
import Derived.OpenShut
import Derived.Below
import Derived.ChangeOld
import Derived.Test.YtfbiejkdeadheaaOpen
import Derived.Test.YtfbiejkdeadheaaByp8
namespace Go.Proofs.Ytfbiejkdeadheaa.bypassAdds
open Go.ChangeShapes Go.WideShapes Go.ChangeAt Go.RowKit
set_option linter.unusedVariables false

theorem own : ownKnob Try.prog.godebug = none := by kernel_rfl
theorem laidOut : laidOutB Try.prog = true := by kernel_rfl


set_option maxRecDepth 100000 in
theorem lifted (os : Os) (started : os.Started) (H : Type) (enc : TypeId × Value → H) :
    ReturnsInHanded {} Try.checked os 5 .any (Rows.bypassAddsSpec.pre6 enc Try.prog Try.f5 Rows.bypassAddsRow.domain false) (Rows.bypassAddsSpec.post enc Try.prog Try.f5 false true false false) := by
  refine returnsInHanded_of_change (C := Try.checked) own started (by kernel_rfl) Try.func5
    (ChangeSpec.witness6 (enc := enc) (C := Try.checked) false ⟨#[], #[.slice none 0 0, .slice none 0 0, .agg #[.int .u8 0, .int .u8 0, .int .u8 0, .int .u8 0]], []⟩ 8 (by kernel_rfl) (by kernel_rfl) (by kernel_rfl) (by kernel_rfl)) ?_
  intro W base args ds gs before hval0 hW hcnd _
  have hval : ∀ (j : Nat) t v, Try.f5.params[j]? = some t → args[j]? = some v → Value.okWide Try.prog W .any base t v := hval0
  have hW' := hW
  obtain ⟨p, q, hA0, hV, rfl, hfz, hnd⟩ := hW
  have hA : DataW.TrodAll enc Try.prog W 0 (fun _ => true) true Try.f5.params.toList args.toList ds p := hA0
  rw [Try.params5] at hA hval
  obtain ⟨v0, vs0, d0, ds0, p0, q0, hargs, rfl, rfl, h0, r0⟩ := trodAll_cons hA
  obtain ⟨v1, vs1, d1, ds1, p1, q1, rfl, rfl, rfl, h1, r1⟩ := trodAll_cons r0
  obtain ⟨v2, vs2, d2, ds2, p2, q2, rfl, rfl, rfl, h2, r2⟩ := trodAll_cons r1
  obtain ⟨rfl, rfl, rfl⟩ := trodAll_nil r2
  obtain rfl : args = #[v0, v1, v2] := by cases args; simp_all
  obtain ⟨rfl, rfl⟩ := trodVars_none hV
  have k0 := h0
  have lt0 : ∀ x ∈ p0, x.block < W.heap.size := by obtain ⟨m, hm⟩ := k0; exact DataW.trod_lt m _ _ _ hm
  have k1 := h1
  have lt1 : ∀ x ∈ p1, x.block < W.heap.size := by obtain ⟨m, hm⟩ := k1; exact DataW.trod_lt m _ _ _ hm
  have k2 := h2
  have lt2 : ∀ x ∈ p2, x.block < W.heap.size := by obtain ⟨m, hm⟩ := k2; exact DataW.trod_lt m _ _ _ hm
  have hcall : Calls Try.prog 5 #[v0, v1, v2] W fun e w' => e = .returned (.bool true) ∧ Below W.heap.size W w' := by
    obtain ⟨a0, len0, c0, rfl⟩ := okWide_slice Try.underlying26 (hval 0 26 v0 rfl rfl)
    obtain ⟨f0, hf0⟩ := h0
    obtain ⟨A0, cap0, z0, hz0, hm0, R0, wf0⟩ := open_RdI Try.underlying26 Try.underlying3 (by kernel_rfl) hf0
    obtain ⟨a1, len1, c1, rfl⟩ := okWide_slice Try.underlying39 (hval 1 39 v1 rfl rfl)
    obtain ⟨f1, hf1⟩ := h1
    obtain ⟨A1, cap1, z1, hz1, hm1, R1, wf1⟩ := open_RdE Try.underlying39 Try.underlying57 (by kernel_rfl) (by kernel_rfl) rfl rfl rfl rfl Try.underlying3 Try.underlying4 hf1
    obtain ⟨f2, hf2⟩ := h2
    obtain ⟨n0, n1, n2, n3, rfl, wn0, wn1, wn2, wn3⟩ := open_arr4 Try.underlying51 Try.underlying5 (by kernel_rfl) (by kernel_rfl) (hval 2 51 v2 rfl rfl) hf2
    rw [hz0, hz1]
    by_cases c20 : z0.length ≤ 20
    · by_cases c60 : z1.length ≤ 60
      · exact adds14 W _ _ z0 z1 n0 n1 n2 n3 (by rw [← hz0]; exact R0 (by omega)) (by rw [← hz1]; exact R1 (by omega)) c20 c60 (bounds_u8 wn0) (bounds_u8 wn1) (bounds_u8 wn2) (bounds_u8 wn3)
      · exact longA_l W _ _ _ _ _ _ n0 n1 n2 n3 c20 (by omega) (by simpa [maxLen] using hm1)
    · exact longA_ns W _ _ _ _ n0 n1 n2 n3 (by omega) (by simpa [maxLen] using hm0)
  refine hcall.mono fun e W' ⟨he, bel⟩ => ?_
  subst he
  exact ⟨_, rfl, _, _, _, [], _, [], hW', trodAll_mk1 (shut_bool Try.underlying4 _), (trodAll_cons_mk (Below.trod laidOut (by kernel_rfl) (of_decide_eq_true (by kernel_rfl)) k0 bel lt0) (trodAll_cons_mk (Below.trod laidOut (by kernel_rfl) (of_decide_eq_true (by kernel_rfl)) k1 bel lt1) (trodAll_cons_mk (Below.trod laidOut (by kernel_rfl) (of_decide_eq_true (by kernel_rfl)) k2 bel lt2) trodAll_mk0))), rfl, bel.frame _, fun h => by cases h⟩

theorem over : Rows.bypassAddsRow.holds Try.pinned (OpenSpec.ofChange Rows.bypassAddsSpec) :=
  OpenClaim.holds_of_wide 5 Try.f5 rfl rfl rfl rfl rfl rfl rfl ⟨rfl, rfl, rfl, rfl, rfl⟩ rfl rfl rfl rfl rfl (by kernel_rfl) Try.func5 (by kernel_rfl)
    (of_decide_eq_true (by kernel_rfl)) (by unfold Func.isWrapper; first | (rw [if_pos (by decide +kernel)]; kernel_rfl) | (rw [if_neg (by decide +kernel)]; exact ⟨rfl, rfl⟩))
    (fun os started H enc _ => lifted os started H enc)

theorem proved : Rows.BypassAddsSaid := over
#print axioms proved
end Go.Proofs.Ytfbiejkdeadheaa.bypassAdds
