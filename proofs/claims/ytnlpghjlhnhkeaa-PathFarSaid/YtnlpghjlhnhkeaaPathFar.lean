/- PathFar: for every topology and any three numbers from 0 to 255 the law returns true, and its arguments read as they did. No further conditions. -/
import Derived.Test.YtnlpghjlhnhkeaaRows
import Derived.WalkKit
import Derived.ProofKit
import Derived.OpenShut
import Derived.Below
import Derived.ChangeOld
import Derived.Test.YtnlpghjlhnhkeaaOpen2
import Derived.Test.YtnlpghjlhnhkeaaOpen3
import Derived.Test.YtnlpghjlhnhkeaaPa24
namespace Go.Proofs.Ytnlpghjlhnhkeaa.pathFar
open Go.ChangeShapes Go.WideShapes Go.ChangeAt Go.RowKit
set_option linter.unusedVariables false

theorem own : ownKnob Try.prog.godebug = none := by kernel_rfl
theorem laidOut : laidOutB Try.prog = true := by kernel_rfl

theorem bounds_u8' {n : Int} (h : (Lit.int .u8 n).wf = true) : 0 ≤ n ∧ n < 256 := by
  simp [Lit.wf] at h
  have e1 : IntKind.u8.min = 0 := by decide
  have e2 : IntKind.u8.max = 255 := by decide
  omega

set_option maxRecDepth 100000 in
theorem lifted (os : Os) (started : os.Started) (H : Type) (enc : TypeId × Value → H) :
    ReturnsInHanded {} Try.checked os 3 .any (Rows.pathFarSpec.pre6 enc Try.prog Try.f3 Rows.pathFarRow.domain false) (Rows.pathFarSpec.post enc Try.prog Try.f3 false true false false) := by
  refine returnsInHanded_of_change (C := Try.checked) own started (by kernel_rfl) Try.func3
    (ChangeSpec.witness6 (enc := enc) (C := Try.checked) false ⟨#[], #[.agg #[.slice none 0 0, .slice none 0 0], .agg #[.int .u8 0, .int .u8 0, .int .u8 0]], []⟩ 8 (by kernel_rfl) (by kernel_rfl) (by kernel_rfl) (by kernel_rfl)) ?_
  intro W base args ds gs before hval0 hW hcnd _
  have hval : ∀ (j : Nat) t v, Try.f3.params[j]? = some t → args[j]? = some v → Value.okWide Try.prog W .any base t v := hval0
  have hW' := hW
  obtain ⟨p, q, hA0, hV, rfl, hfz, hnd⟩ := hW
  have hA : DataW.TrodAll enc Try.prog W 0 (fun _ => true) true Try.f3.params.toList args.toList ds p := hA0
  rw [Try.params3] at hA hval
  obtain ⟨v0, vs0, d0, ds0, p0, q0, hargs, rfl, rfl, h0, r0⟩ := trodAll_cons hA
  obtain ⟨v1, vs1, d1, ds1, p1, q1, rfl, rfl, rfl, h1, r1⟩ := trodAll_cons r0
  obtain ⟨rfl, rfl, rfl⟩ := trodAll_nil r1
  obtain rfl : args = #[v0, v1] := by cases args; simp_all
  obtain ⟨rfl, rfl⟩ := trodVars_none hV
  have k0 := h0
  have lt0 : ∀ x ∈ p0, x.block < W.heap.size := by obtain ⟨m, hm⟩ := k0; exact DataW.trod_lt m _ _ _ hm
  have k1 := h1
  have lt1 : ∀ x ∈ p1, x.block < W.heap.size := by obtain ⟨m, hm⟩ := k1; exact DataW.trod_lt m _ _ _ hm
  have hcall : Calls Try.prog 3 #[v0, v1] W fun e w' => e = .returned (.bool true) ∧ Below W.heap.size W w' := by
    obtain ⟨f0, hf0⟩ := h0
    obtain ⟨AP, cP, P, AT, cT, T, rfl, mP, mT, RP, RT⟩ := open_topo (hval 0 24 v0 rfl rfl) hf0
    obtain ⟨f1, hf1⟩ := h1
    obtain ⟨n0, n1, n2, rfl, wn0, wn1, wn2⟩ := open_arr3 Try.underlying25 Try.underlying5 (by kernel_rfl) (by kernel_rfl) (hval 1 25 v1 rfl rfl) hf1
    obtain ⟨y0, z0⟩ := bounds_u8' wn0
    obtain ⟨y1, z1⟩ := bounds_u8' wn1
    obtain ⟨y2, z2⟩ := bounds_u8' wn2
    obtain ⟨n0, rfl⟩ := Int.eq_ofNat_of_zero_le y0
    obtain ⟨n1, rfl⟩ := Int.eq_ofNat_of_zero_le y1
    obtain ⟨n2, rfl⟩ := Int.eq_ofNat_of_zero_le y2
    by_cases hfew : P.length ≤ 60 ∧ T.length ≤ 60
    · by_cases hc : chkT P T = 0
      · exact far07 W _ _ P T n0 n1 n2 (by omega) (by omega) (by omega) (RP (by omega)) (RT (by omega)) (decide_eq_true hfew) hc
      · exact badFr W _ _ P T n0 n1 n2 (RP (by omega)) (RT (by omega)) (decide_eq_true hfew) hc
    · exact longFr W _ _ _ _ _ _ n0 n1 n2 ⟨by omega, by simpa [maxLen] using mP, by simpa [maxLen] using mT⟩
  refine hcall.mono fun e W' ⟨he, bel⟩ => ?_
  subst he
  exact ⟨_, rfl, _, _, _, [], _, [], hW', trodAll_mk1 (shut_bool Try.underlying4 _), (trodAll_cons_mk (Below.trod laidOut (by kernel_rfl) (of_decide_eq_true (by kernel_rfl)) k0 bel lt0) (trodAll_cons_mk (Below.trod laidOut (by kernel_rfl) (of_decide_eq_true (by kernel_rfl)) k1 bel lt1) trodAll_mk0)), rfl, bel.frame _, fun h => by cases h⟩

theorem over : Rows.pathFarRow.holds Try.pinned (OpenSpec.ofChange Rows.pathFarSpec) :=
  OpenClaim.holds_of_wide 3 Try.f3 rfl rfl rfl rfl rfl rfl rfl ⟨rfl, rfl, rfl, rfl, rfl⟩ rfl rfl rfl rfl rfl (by kernel_rfl) Try.func3 (by kernel_rfl)
    (of_decide_eq_true (by kernel_rfl)) (by unfold Func.isWrapper; first | (rw [if_pos (by decide +kernel)]; kernel_rfl) | (rw [if_neg (by decide +kernel)]; exact ⟨rfl, rfl⟩))
    (fun os started H enc _ => lifted os started H enc)

theorem proved : Rows.PathFarSaid := over
#print axioms proved
end Go.Proofs.Ytnlpghjlhnhkeaa.pathFar
