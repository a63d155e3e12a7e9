/- Joined: Aw48. -/
import Derived.Test.YtgilghiegfgjeaaGreatDoorMgDeskHeads12
import Derived.Test.YtgilghiegfgjeaaGreatDoorMgDeskHeads13
section
set_option linter.unusedVariables false
set_option linter.unusedSimpArgs false
/- awake() of kissgatelaw48, run by the kernel: its first text by itself, as a Cut. -/
namespace Go.Proofs.YtgilghiegfgjeaaGreatDoor
open Go.RowKit

def cutD48 : Cut := ⟨5, [.w (.c (.s ⟨#[110, 111, 100, 101, 115, 32, 45, 49, 10, 116, 104, 114, 101, 97, 100, 115, 32, 48, 44, 48, 10, 108, 111, 99, 107, 32, 116, 105, 99, 107, 101, 116, 32, 49, 32, 49, 32, 49, 32, 48, 10, 112, 108, 97, 121, 32, 48, 108, 32, 48, 115, 32, 48, 115, 32, 49, 117, 10, 119, 111, 114, 100, 115, 10, 10, 97, 116, 10, 98, 111, 117, 110, 100, 32, 50, 32, 48, 10, 111, 112, 115, 32, 120, 10, 111, 112, 115, 10]⟩))], 0, [], .t [.c (.s ⟨#[97, 48, 32, 101, 48, 47, 49, 32, 98, 49, 10, 49, 44, 48, 10, 50, 44, 48, 10, 49, 52, 44, 48, 10, 101, 114, 114, 111, 114, 32, 57, 10, 50, 10]⟩), .c (.i .i64 0)], []⟩
set_option maxRecDepth 1000000 in
theorem cutD48_ok : cutOk Tryz.prog extA (spD Tryz.prog) (drawR Tryz.prog extA) 3000 cutD48 = true := by decide +kernel
theorem tab48_ok : ∀ c ∈ [cutD48], cutOk Tryz.prog extA (spD Tryz.prog) (drawR Tryz.prog extA) 3000 c = true := by
  intro c hc
  rw [List.mem_singleton] at hc
  rw [hc]
  exact cutD48_ok
theorem spE_ok : SpS Tryz.prog (spOr (spCut [cutD48]) (spD Tryz.prog)) := spOr_ok (spCut_ok extA_ok spD_ok (drawR_ok _ _ extA_ok) tab48_ok) spD_ok
set_option maxRecDepth 1000000 in
theorem awakes48 : awakes Tryz.prog extA (spOr (spCut [cutD48]) (spD Tryz.prog)) (drawR Tryz.prog extA) 3000 6 = true := by decide +kernel
theorem awake48 (w : World) : Calls Tryz.prog 6 #[] w fun e w' => e = .returned (.bool true) ∧ Below w.heap.size w w' := awakes_ok extA_ok spE_ok (drawR_ok _ _ extA_ok) awakes48 w
end Go.Proofs.YtgilghiegfgjeaaGreatDoor
end
