/- Layer 44: Each, the program's and the document's (written by wip/gen_sp10.py). -/
import Derived.Test.YthgpjiebeinamaaSp9
namespace Go.Proofs.Ythgpjiebeinamaa
open Go.RowKit

set_option maxRecDepth 100000 in
set_option maxHeartbeats 4000000 in
theorem name_yes (w : World) (k : Int) (h : 1 ≤ k ∧ k ≤ 13) : Calls Try.prog 47 #[.int .i64 k] w fun e w' => ∃ s : ByteArray, e = .returned (.string s) ∧ (¬ s.toList = [] ∧ s.toList.isEmpty = false) ∧ Below w.heap.size w w' := by
  have hk : k = 1 ∨ k = 2 ∨ k = 3 ∨ k = 4 ∨ k = 5 ∨ k = 6 ∨ k = 7 ∨ k = 8 ∨ k = 9 ∨ k = 10 ∨ k = 11 ∨ k = 12 ∨ k = 13 := by omega
  clear h
  rcases hk with rfl | rfl | rfl | rfl | rfl | rfl | rfl | rfl | rfl | rfl | rfl | rfl | rfl
  all_goals
    go_enter Try.func47, Try.ntmps47
    go_wp2
    go_ret
    exact ⟨_, rfl, by decide +kernel, (Below.refl _ _).alloc (Nat.le_refl _) _⟩
set_option maxRecDepth 100000 in
theorem name_no (w : World) (k : Int) (h : ¬ (1 ≤ k ∧ k ≤ 13)) : Calls Try.prog 47 #[.int .i64 k] w fun e w' => e = .returned (.string ⟨#[]⟩) ∧ Below w.heap.size w w' := by
  by_cases h0 : k < 0
  · clear h
    go_enter Try.func47, Try.ntmps47
    go_wp2
    go_ret
    exact ⟨rfl, (Below.refl _ _).alloc (Nat.le_refl _) _⟩
  · by_cases h1 : k = 0
    · subst h1
      clear h h0
      go_enter Try.func47, Try.ntmps47
      go_wp2
      go_ret
      exact ⟨rfl, (Below.refl _ _).alloc (Nat.le_refl _) _⟩
    · have h2 : 14 ≤ k := by omega
      clear h h0 h1
      go_enter Try.func47, Try.ntmps47
      go_wp2
      go_ret
      exact ⟨rfl, (Below.refl _ _).alloc (Nat.le_refl _) _⟩
theorem each_no {P T : List Int} {kind b k s : Int} {r : Bool} (g l : Int) (h : ¬ ((1 ≤ kind ∧ kind ≤ 13) ∧ chkT P T = 0 ∧ (0 ≤ b ∧ b ≤ 1000) ∧ (1 ≤ k ∧ k ≤ 4000) ∧ (0 ≤ s ∧ s ≤ 4000) ∧ (r = true → 11 ≤ kind))) : eachI P T kind g l b k s r = 0 := by
  unfold eachI eachB; rw [decide_eq_false h]; rfl
theorem each_yes {P T : List Int} {kind b k s : Int} {r : Bool} (g l : Int) (h : (1 ≤ kind ∧ kind ≤ 13) ∧ chkT P T = 0 ∧ (0 ≤ b ∧ b ≤ 1000) ∧ (1 ≤ k ∧ k ≤ 4000) ∧ (0 ≤ s ∧ s ≤ 4000) ∧ (r = true → 11 ≤ kind)) :
    eachI P T kind g l b k s r = if kind < 6 then spanI kind T.length k s else mulN k.toNat (turnN T.length (leavesL P).length P.length (depT P T).toNat kind g l b s.toNat r) := by
  unfold eachI eachB; rw [decide_eq_true h]; rfl
theorem treeI_le (A B C s b : Int) : treeI A B C s b ≤ 1099511627776 := by
  unfold treeI
  split
  · exact waitsN_le _ _ _ _ _
  · omega
theorem turnN_le {th nd pl dp : Nat} {kind g l : Int} {b s : Nat} {r : Bool} (h1 : th ≤ 32) (h2 : nd ≤ 32) (h3 : b ≤ 1000) (h4 : s ≤ 4000) : turnN th nd pl dp kind g l b s r ≤ 1099511627776 := by
  have a1 : th * (s + 4) ≤ 32 * 4004 := Nat.mul_le_mul h1 (by omega)
  have a2 : th * b ≤ 32 * 1000 := Nat.mul_le_mul h1 h3
  have a3 : (th - 1 + th * b + 1) * (s + th + 20) ≤ 32032 * 4052 := Nat.mul_le_mul (by omega) (by omega)
  have a4 : th * (th + b + 2) ≤ 32 * 1034 := Nat.mul_le_mul h1 (by omega)
  have a5 : (th * (th + b + 2) + 1) * (s + 24) ≤ 33089 * 4024 := Nat.mul_le_mul (by omega) (by omega)
  unfold turnN
  split
  · exact cohI_le _ _ _ _ _ _
  split
  · exact treeI_le _ _ _ _ _
  split
  · show b + 8 + th * (s + 4) ≤ _; omega
  split
  · show 4 + (th - 1 + th * b + 1) * (s + th + 20) ≤ _; omega
  split
  · show 4 + (th * (th + b + 2) + 1) * (s + 24) ≤ _; omega
  split
  · omega
  split
  · omega
  split
  · omega
  split
  · omega
  · exact addN_le _ _
end Go.Proofs.Ythgpjiebeinamaa
