/- Joined: DkC. -/
import Derived.Test.YtgilghiegfgjeaaGreatDoorRows
import Derived.Test.YtgilghiegfgjeaaGreatDoorCards
import Derived.Test.YtgilghiegfgjeaaGreatDoorTie
import Derived.SevenTiedAt
import Derived.KernelRfl
section
set_option linter.unusedVariables false
set_option linter.unusedSimpArgs false
/- The closed facts of the two cards of layer 48. -/
namespace Go.Proofs.YtgilghiegfgjeaaGreatDoor
open Go

theorem cardMain : Tryz.pinned.checked.prog.mainIs = some (true, "1f91a4d4227fb9fd6aa9741336fdd80f66366aa5b154140522b2bac420c0493a".toList) := by kernel_rfl
theorem cardLooks : false = Tryz.pinned.checked.prog.looks [] := by kernel_rfl
theorem deskHeadsC1 : Rows.deskHeadsRow.wfByText (OpenSpec.ofChange Rows.deskHeadsSpec) = true := by kernel_rfl
theorem deskHeadsC3 : false = Rows.deskHeadsRow.goesBy Tryz.pinned.checked.prog := by kernel_rfl
theorem deskHeadsC5 : Tryz.pinned.checked.prog.funcNamed Rows.deskHeadsRow.func = some 4 := by kernel_rfl
theorem deskHeadsC6 : ([28, 32].all fun u => !Tryz.pinned.checked.prog.wantsStandIn u) = true := by kernel_rfl
theorem deskHeadsC7 (f : FuncId) (fn : Func) (hf : Tryz.pinned.checked.prog.funcNamed Rows.deskHeadsRow.func = some f) (hfn : Tryz.pinned.checked.prog.funcs[f]? = some fn) : false = Tryz.pinned.checked.prog.looks [] ∧ ∀ (j : Nat) t, fn.params[j]? = some t → Tryz.pinned.checked.prog.wantsStandIn t = false := by
  obtain rfl : f = 4 := (Option.some.inj (deskHeadsC5.symm.trans hf)).symm
  obtain rfl : fn = Tryz.f4 := (Option.some.inj (Tryz.func4.symm.trans hfn)).symm
  refine ⟨cardLooks, fun j t ht => ?_⟩
  rw [Tryz.params4] at ht
  have hm : t ∈ [28, 32] := by simpa using Array.mem_of_getElem? ht
  simpa using List.all_eq_true.1 deskHeadsC6 t hm
theorem deskHeadsCard (over : Rows.deskHeadsRow.holds Tryz.pinned (OpenSpec.ofChange Rows.deskHeadsSpec)) : Rows.DeskHeadsCardSaid :=
  Claim7.holds_tied_plain_at .later [] [.data, .pinned] true (true, "1f91a4d4227fb9fd6aa9741336fdd80f66366aa5b154140522b2bac420c0493a") false over (fun _ h => by cases h) deskHeadsC1 (fun _ h => by cases h) deskHeads_row_tie rfl ⟨rfl, rfl⟩ cardMain rfl deskHeadsC7 deskHeadsC3
end Go.Proofs.YtgilghiegfgjeaaGreatDoor
end
