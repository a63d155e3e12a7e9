/- Joined: DkC. -/
import Derived.Test.YtgilghiegfgjeaaGreatDoorRows
import Derived.Test.YtgilghiegfgjeaaGreatDoorCards
import Derived.Test.YtgilghiegfgjeaaGreatDoorTie
import Derived.SevenTiedAt
import Derived.KernelRfl
section
set_option linter.unusedVariables false
set_option linter.unusedSimpArgs false
/- The closed facts of the two cards of layer 48. -/
namespace Go.Proofs.YtgilghiegfgjeaaGreatDoor
open Go

theorem cardMain : Tryz.pinned.checked.prog.mainIs = some (true, "1f91a4d4227fb9fd6aa9741336fdd80f66366aa5b154140522b2bac420c0493a".toList) := by kernel_rfl
theorem cardLooks : false = Tryz.pinned.checked.prog.looks [] := by kernel_rfl
theorem deskManyC1 : Rows.deskManyRow.wfByText (OpenSpec.ofChange Rows.deskManySpec) = true := by kernel_rfl
theorem deskManyC3 : false = Rows.deskManyRow.goesBy Tryz.pinned.checked.prog := by kernel_rfl
theorem deskManyC5 : Tryz.pinned.checked.prog.funcNamed Rows.deskManyRow.func = some 3 := by kernel_rfl
theorem deskManyC6 : ([5].all fun u => !Tryz.pinned.checked.prog.wantsStandIn u) = true := by kernel_rfl
theorem deskManyC7 (f : FuncId) (fn : Func) (hf : Tryz.pinned.checked.prog.funcNamed Rows.deskManyRow.func = some f) (hfn : Tryz.pinned.checked.prog.funcs[f]? = some fn) : false = Tryz.pinned.checked.prog.looks [] ∧ ∀ (j : Nat) t, fn.params[j]? = some t → Tryz.pinned.checked.prog.wantsStandIn t = false := by
  obtain rfl : f = 3 := (Option.some.inj (deskManyC5.symm.trans hf)).symm
  obtain rfl : fn = Tryz.f3 := (Option.some.inj (Tryz.func3.symm.trans hfn)).symm
  refine ⟨cardLooks, fun j t ht => ?_⟩
  rw [Tryz.params3] at ht
  have hm : t ∈ [5] := by simpa using Array.mem_of_getElem? ht
  simpa using List.all_eq_true.1 deskManyC6 t hm
theorem deskManyCard (over : Rows.deskManyRow.holds Tryz.pinned (OpenSpec.ofChange Rows.deskManySpec)) : Rows.DeskManyCardSaid :=
  Claim7.holds_tied_plain_at .later [] [.data, .pinned] true (true, "1f91a4d4227fb9fd6aa9741336fdd80f66366aa5b154140522b2bac420c0493a") false over (fun _ h => by cases h) deskManyC1 (fun _ h => by cases h) deskMany_row_tie rfl ⟨rfl, rfl⟩ cardMain rfl deskManyC7 deskManyC3
end Go.Proofs.YtgilghiegfgjeaaGreatDoor
end
