/- Running closed code: the seat's own functions without a body, its Once; awake() of kissgatelaw39, 40, 47. -/
import Derived.Test.YtgbfbeohmogadaaGreatOn1
namespace Go.Proofs.YtgbfbeohmogadaaGreat
open Go.RowKit

def extA : ExtF := extOr (extL 171 .u32) (extOr (extL 117 .i64) (extOr (extW 188 .i64) (extOr (extG 264 .i64 (gAdd .i64)) (extOr (extG 314 .i64 (gSwap .i64)) (extG 315 .i64 (gCas .i64))))))
def spA : SpF := spOnce 152 116
theorem extA_ok : ExtS Tryz.prog extA :=
  extOr_ok (extL_ok fun a x w hc => run_call_load Tryz.func171 (by kernel_rfl) (by kernel_rfl) (by kernel_rfl) .u32 (by kernel_rfl) hc) <|
  extOr_ok (extL_ok fun a x w hc => run_call_load Tryz.func117 (by kernel_rfl) (by kernel_rfl) (by kernel_rfl) .i64 (by kernel_rfl) hc) <|
  extOr_ok (extW_ok fun a u y w hc hz => run_call_store Tryz.func188 (by kernel_rfl) (by kernel_rfl) (by kernel_rfl) (by kernel_rfl) hc hz) <|
  extOr_ok (extG_ok (gAdd_ok Tryz.func264 (by kernel_rfl) (by kernel_rfl) (by kernel_rfl) .i64 (by kernel_rfl))) <|
  extOr_ok (extG_ok (gSwap_ok Tryz.func314 (by kernel_rfl) (by kernel_rfl) (by kernel_rfl) .i64 (by kernel_rfl)))
    (extG_ok (gCas_ok Tryz.func315 (by kernel_rfl) (by kernel_rfl) (by kernel_rfl) .i64 (by kernel_rfl)))
theorem spA_ok : SpS Tryz.prog spA := spOnce_ok once_find
set_option maxRecDepth 1000000 in
theorem awakes39 : awakes Tryz.prog extA spA (drawR Tryz.prog extA) 3000 14 = true := by decide +kernel
set_option maxRecDepth 1000000 in
theorem awakes40 : awakes Tryz.prog extA spA (drawR Tryz.prog extA) 3000 16 = true := by decide +kernel
set_option maxRecDepth 1000000 in
theorem awakes47 : awakes Tryz.prog extA spA (drawR Tryz.prog extA) 3000 38 = true := by decide +kernel
theorem awake39 (w : World) : Calls Tryz.prog 14 #[] w fun e w' => e = .returned (.bool true) ∧ Below w.heap.size w w' := awakes_ok extA_ok spA_ok (drawR_ok _ _ extA_ok) awakes39 w
theorem awake40 (w : World) : Calls Tryz.prog 16 #[] w fun e w' => e = .returned (.bool true) ∧ Below w.heap.size w w' := awakes_ok extA_ok spA_ok (drawR_ok _ _ extA_ok) awakes40 w
theorem awake47 (w : World) : Calls Tryz.prog 38 #[] w fun e w' => e = .returned (.bool true) ∧ Below w.heap.size w w' := awakes_ok extA_ok spA_ok (drawR_ok _ _ extA_ok) awakes47 w
end Go.Proofs.YtgbfbeohmogadaaGreat
