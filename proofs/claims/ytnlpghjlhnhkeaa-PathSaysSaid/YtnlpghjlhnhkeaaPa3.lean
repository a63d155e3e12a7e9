/- sync.Once, one goroutine: doSlow, Do. -/
import Derived.Test.YtnlpghjlhnhkeaaPa1
namespace Go.Proofs.Ytnlpghjlhnhkeaa
open Go.RowKit
set_option linter.unusedVariables false

/-- what is left behind Do, the first time: w2 is the world behind the function's own call -/
def onceEnd (b off : Nat) (w2 : World) : World := (w2.drew.setCell ⟨b, off, none⟩ (.int .u32 1)).setCell ⟨b, off + 1, none⟩ (.int .i32 0)
/-- the once's two cells while the function runs -/
structure OnceHeld (b off : Nat) (w : World) : Prop where
  c0 : w.cell? ⟨b, off, none⟩ = some (.int .u32 0)
  c1 : w.cell? ⟨b, off + 1, none⟩ = some (.int .i32 1)
  f0 : w.frozen? ⟨b, off, none⟩ = false
  f1 : w.frozen? ⟨b, off + 1, none⟩ = false
set_option maxRecDepth 100000 in
set_option maxHeartbeats 1600000 in
theorem slow_any (b off fn : Nat) (x : Value) (w : World) (R : World → Prop) (h0 : w.cell? ⟨b, off, none⟩ = some (.int .u32 0)) (h1 : w.cell? ⟨b, off + 1, none⟩ = some (.int .i32 0))
    (f0 : w.frozen? ⟨b, off, none⟩ = false) (f1 : w.frozen? ⟨b, off + 1, none⟩ = false) (hfn : fn = 67)
    (hc : Calls Try.prog 67 #[x] (w.setCell ⟨b, off + 1, none⟩ (.int .i32 1)) fun e w2 => e = .returned (.tuple #[]) ∧ OnceHeld b off w2 ∧ R w2) :
    Calls Try.prog 81 #[.pointer (some ⟨b, off, none⟩), .func (.func fn) #[x] #[]] w fun e w' => e = .returned (.tuple #[]) ∧ ∃ w2, R w2 ∧ w' = onceEnd b off w2 := by
  subst hfn
  have HC := Lib.hid hc
  have HL := Lib.hid (bool_load ⟨b, off, none⟩ 0 (w.setCell ⟨b, off + 1, none⟩ (.int .i32 1)) ((World.cell?_setCell_other _ ⟨b, off + 1, none⟩ ⟨b, off, none⟩ _ (by simp)).trans h0))
  clear hc
  go_enter_defers Try.func81, Try.ntmps81
  go_wp2_with fail
  refine (lock_free ⟨b, off + 1, none⟩ _ h1 f1).mono ?_
  rintro e w' ⟨rfl, rfl⟩
  go_wp2_with fail
  refine HL.out.mono ?_
  rintro e w' ⟨rfl, rfl⟩
  go_wp2_with fail
  refine HC.out.mono ?_
  rintro e w2 ⟨rfl, hO, hR⟩
  have HO := Lib.hid (And.intro hO hR)
  clear hO hR
  go_wp2
  refine leaves_cons (f := 98) (args := #[.pointer (some ⟨b, off, none⟩), .bool true]) (by simp) (by simp [go_sem]) ?_
  refine (store_deferred ⟨b, off, none⟩ (.int .u32 0) .returning _ HO.out.1.c0 HO.out.1.f0).mono ?_
  rintro e u' w'' ⟨rfl, rfl, rfl⟩
  refine leaves_cons (f := 97) (args := #[.pointer (some ⟨b, off + 1, none⟩)]) (by simp [settle]) (by simp [go_sem]) ?_
  refine (unlock_deferred ⟨b, off + 1, none⟩ _ _ ?_ ?_).mono ?_
  · exact (World.cell?_setCell_other _ ⟨b, off, none⟩ ⟨b, off + 1, none⟩ _ (by simp)).trans HO.out.1.c1
  · have := HO.out.1.f1
    simp [this]
  rintro e u' w'' ⟨rfl, rfl, rfl⟩
  have HE : ∃ w3, R w3 ∧ (w2.drew.setCell ⟨b, off, none⟩ (.int .u32 1)).setCell ⟨b, off + 1, none⟩ (.int .i32 0) = onceEnd b off w3 := ⟨w2, HO.out.2, rfl⟩
  simp [Leaves, settle, results, Try.results81]
  exact HE
set_option maxRecDepth 100000 in
theorem do_first (b off : Nat) (x : Value) (w : World) (R : World → Prop) (h0 : w.cell? ⟨b, off, none⟩ = some (.int .u32 0)) (h1 : w.cell? ⟨b, off + 1, none⟩ = some (.int .i32 0))
    (f0 : w.frozen? ⟨b, off, none⟩ = false) (f1 : w.frozen? ⟨b, off + 1, none⟩ = false)
    (hc : Calls Try.prog 67 #[x] (w.setCell ⟨b, off + 1, none⟩ (.int .i32 1)) fun e w2 => e = .returned (.tuple #[]) ∧ OnceHeld b off w2 ∧ R w2) :
    Calls Try.prog 66 #[.pointer (some ⟨b, off, none⟩), .func (.func 67) #[x] #[]] w fun e w' => e = .returned (.tuple #[]) ∧ ∃ w2, R w2 ∧ w' = onceEnd b off w2 := by
  have HS := Lib.hid (slow_any b off _ x w R h0 h1 f0 f1 rfl hc)
  have HL := Lib.hid (bool_load ⟨b, off, none⟩ 0 w h0)
  clear hc
  go_enter Try.func66, Try.ntmps66
  go_wp2_with fail
  refine HL.out.mono ?_
  rintro e w' ⟨rfl, rfl⟩
  go_wp2_with fail
  refine HS.out.mono ?_
  rintro e w' ⟨rfl, hR⟩
  have HR := Lib.hid hR
  clear hR
  go_wp2
  first | (go_end0; exact ⟨rfl, HR.out⟩) | exact bodyPost_ret (results_none rfl _ _ _) rfl ⟨rfl, HR.out⟩
theorem do_done (b off : Nat) (fv : Value) (w : World) (h0 : w.cell? ⟨b, off, none⟩ = some (.int .u32 1)) :
    Calls Try.prog 66 #[.pointer (some ⟨b, off, none⟩), fv] w fun e w' => e = .returned (.tuple #[]) ∧ w = w' := by
  have HL := Lib.hid (bool_load ⟨b, off, none⟩ 1 w h0)
  go_enter Try.func66, Try.ntmps66
  go_wp2_with fail
  refine HL.out.mono ?_
  rintro e w' ⟨rfl, rfl⟩
  go_wp2
  first | (go_end0; exact ⟨rfl, rfl⟩) | exact bodyPost_ret (results_none rfl _ _ _) rfl ⟨rfl, rfl⟩
end Go.Proofs.Ytnlpghjlhnhkeaa
