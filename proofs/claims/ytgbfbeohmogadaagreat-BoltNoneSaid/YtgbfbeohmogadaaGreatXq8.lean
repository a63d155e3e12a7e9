/- Running closed code: what the operations that touch no memory come to; loads. -/
import Derived.Test.YtgbfbeohmogadaaGreatXq7
namespace Go.Proofs.YtgbfbeohmogadaaGreat
open Go.RowKit
set_option linter.unusedVariables false

theorem map_parts (g : Operand → Value) (ps : Array (Nat × Operand)) : (ps.map fun (i, x) => (i, g x)).toList = ps.toList.map fun (i, x) => (i, g x) := by rw [Array.toList_map]
set_option maxHeartbeats 1000000 in
theorem opPure_ok {P : Program} {r : Nm} {e : Operand → Option V} {g : Operand → Value} (he : ∀ x v, e x = some v → VR r v (g x)) {o : Oper} {v : V} (h : opPure P e o.op = some v) :
    ∃ u, VR r v u ∧ ∀ w, (execOp g o).run P w = .ok (.value u) w := by
  obtain ⟨dst, op, ty, pos, after, guard⟩ := o
  simp only at h
  have fin : ∀ {s : Sem Value} {u : Value}, (∀ w, s.run P w = .ok u w) → ∀ w, ((do pure (.value (← s))) : Sem Next).run P w = .ok (.value u) w := fun h w => by
    rw [Sem.run_bind, h w, Result.andThen_ok]; rfl
  unfold opPure at h
  split at h
  · rename_i x; exact ⟨_, he _ _ h, fun w => rfl⟩
  · rename_i x; exact ⟨_, he _ _ h, fun w => rfl⟩
  · rename_i c a b
    split at h
    · rename_i hc
      have h1 := he _ _ hc
      refine ⟨_, he _ _ h, fun w => ?_⟩
      simp only [execOp]
      generalize g c = u at h1
      cases h1 with | w h1 => cases h1 with | c h1 => cases h1 with | b => rfl
    · rename_i hc
      have h1 := he _ _ hc
      refine ⟨_, he _ _ h, fun w => ?_⟩
      simp only [execOp]
      generalize g c = u at h1
      cases h1 with | w h1 => cases h1 with | c h1 => cases h1 with | b => rfl
    · cases h
  · rename_i x
    split at h
    · rename_i a hc
      injection h with h
      subst h
      have h1 := he _ _ hc
      refine ⟨_, h1, fun w => ?_⟩
      obtain ⟨k, o⟩ := a
      simp only [execOp]
      generalize g x = u at h1
      cases h1 with | w h1 => cases h1 with | c h1 => cases h1 with | p hk => rfl
    · rename_i f a c hc
      injection h with h
      subst h
      have h1 := he _ _ hc
      refine ⟨_, h1, fun w => ?_⟩
      simp only [execOp]
      generalize g x = u at h1
      cases h1 with | w h1 => cases h1 with | c h1 => cases h1 with | f => rfl
    · cases h
  · rename_i op t x y yt
    split at h
    · rename_i a b ha hb
      obtain ⟨c, hc, rfl⟩ := wc_ok h
      obtain ⟨z, h1, h2⟩ := opBin_ok hc (he _ _ ha) (he _ _ hb)
      exact ⟨z, .w (.c h1), fun w => fin (h2 x y) w⟩
    · cases h
  · rename_i op t x
    split at h
    · rename_i a ha
      obtain ⟨c, hc, rfl⟩ := wc_ok h
      obtain ⟨z, h1, h2⟩ := opUn_ok (P := P) hc (he _ _ ha)
      exact ⟨z, .w (.c h1), fun w => fin h2 w⟩
    · cases h
  · rename_i s d x
    split at h
    · rename_i a ha
      obtain ⟨c, hc, rfl⟩ := wc_ok h
      obtain ⟨z, h1, h2⟩ := opConv_ok hc (he _ _ ha)
      exact ⟨z, .w (.c h1), fun w => fin h2 w⟩
    · cases h
  · rename_i t x
    split at h
    · cases h
    · rename_i de hne ht
      have hm : ∀ w, (Instr.makeInterface t (g x)).run P w = .ok (.iface t (g x)) w := fun w => by
        simp only [Instr.makeInterface, Sem.run_bind, run_underlying ht, Result.andThen_ok]
        cases de <;> first | rfl | exact absurd ht (hne _)
      refine ⟨.iface t (g x), ?_, fun w => fin hm w⟩
      split at h
      · rename_i c hc
        injection h with h
        subst h
        have h1 := he _ _ hc
        generalize g x = u at h1
        cases h1 with | w h1 => cases h1 with | c h1 => exact .w (.c (.d t h1))
      · rename_i c hc
        injection h with h
        subst h
        have h1 := he _ _ hc
        generalize g x = u at h1
        cases h1 with | w h1 => cases h1 with | a h1 => cases h1 with | cons h1 h2 => cases h2 with | nil => exact .w (.c (.da t h1))
      · cases h
    · cases h
  · rename_i f first cap
    split at h
    · rename_i a b ha hb
      injection h with h
      subst h
      have h1 := addrsE_ok he _ _ ha
      have h2 := addrsE_ok he _ _ hb
      refine ⟨.func (.func f) (first.map g) (cap.map g), .w (.c ?_), fun w => rfl⟩
      have e1 : first.map g = (first.toList.map g).toArray := by rw [← Array.toList_map]
      have e2 : cap.map g = (cap.toList.map g).toArray := by rw [← Array.toList_map]
      rw [e1, e2]
      exact .f f h1 h2
    · cases h
  · rename_i t x lo hi mx
    split at h
    · rename_i a l hh m ha hl hhi hm
      obtain ⟨c, hc, rfl⟩ := wc_ok h
      obtain ⟨z, h1, h2⟩ := opSlice_ok hc (he _ _ ha) (optE_ok he hl) (optE_ok he hhi) (optE_ok he hm)
      exact ⟨z, .w (.c h1), fun w => fin h2 w⟩
    · cases h
  · rename_i s x f
    split at h
    · rename_i a ha
      obtain ⟨c, hc, rfl⟩ := wc_ok h
      obtain ⟨z, h1, h2⟩ := opFieldAddr_ok hc (he _ _ ha)
      exact ⟨z, .w (.c h1), fun w => fin h2 w⟩
    · cases h
  · rename_i t x f
    split at h
    · rename_i a ha
      obtain ⟨c, hc, rfl⟩ := ww_ok h
      obtain ⟨z, h1, h2⟩ := opField_ok hc (he _ _ ha)
      exact ⟨z, .w h1, fun w => fin h2 w⟩
    · cases h
  · rename_i t x i
    split at h
    · rename_i a b ha hb
      obtain ⟨c, hc, rfl⟩ := wc_ok h
      obtain ⟨z, h1, h2⟩ := opIndexAddr_ok hc (he _ _ ha) (he _ _ hb)
      exact ⟨z, .w (.c h1), fun w => fin h2 w⟩
    · cases h
  · rename_i t x i
    split at h
    · rename_i a b ha hb
      obtain ⟨c, hc, rfl⟩ := ww_ok h
      obtain ⟨z, h1, h2⟩ := opIndex_ok hc (he _ _ ha) (he _ _ hb)
      exact ⟨z, .w h1, fun w => fin h2 w⟩
    · cases h
  · rename_i x i
    split at h
    · rename_i a ha
      obtain ⟨c, hc, rfl⟩ := ww_ok h
      obtain ⟨z, h1, h2⟩ := opExtract_ok (P := P) hc (he _ _ ha)
      exact ⟨z, .w h1, fun w => fin h2 w⟩
    · cases h
  · rename_i t ps
    split at h
    · rename_i l hl
      split at h
      · rename_i cs hcs
        injection h with h
        subst h
        have hp := partsE_ok he _ _ hl
        rw [← map_parts] at hp
        obtain ⟨vs, h1, h2⟩ := opBuild_ok hcs hp
        exact ⟨_, .w (.a h1), fun w => fin h2 w⟩
      · cases h
    · cases h
  · rename_i b args ts
    split at h
    · rename_i l hl
      obtain ⟨c, hc, rfl⟩ := wc_ok h
      have hp := valsE_ok he _ _ hl
      rw [← Array.toList_map] at hp
      obtain ⟨z, h1, h2⟩ := opBuiltin_ok (P := P) (ty := ty) (cs := args.map fun | .const _ => true | _ => false) hc hp
      refine ⟨z, .w (.c h1), fun w => ?_⟩
      simp only [execOp, resolve, Sem.run_bind, Sem.run_pure, Result.andThen_ok, invoke]
      exact h2 w
    · cases h
  · cases h
end Go.Proofs.YtgbfbeohmogadaaGreat
