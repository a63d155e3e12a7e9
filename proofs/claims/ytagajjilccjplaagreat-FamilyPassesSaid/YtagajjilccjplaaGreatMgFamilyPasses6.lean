/- Joined: FlD, Fn2, Fk2, Top1, Top2. -/
import Derived.Handy
import Derived.Test.YtagajjilccjplaaGreatRows
import Derived.RegionCalls
import Derived.Test.YtagajjilccjplaaGreatMgFamilyPasses1
import Derived.Test.YtagajjilccjplaaGreatMgFamilyPasses2
import Derived.Test.YtagajjilccjplaaGreatMgFamilyPasses5
section
set_option linter.unusedVariables false
set_option linter.unusedSimpArgs false
/- Layer 20 (flat): a flat lock in memory; made, Kind, Spot, Ask, Leave, Step, Alone. (printed by gen_fld.py) -/
namespace Go.Proofs.YtagajjilccjplaaGreat
open Go.RowKit

def ifV (k l : Nat) : Value :=
  match k with
  | 1 => .iface 265 (.agg #[.pointer (some ⟨l, 0, none⟩)])
  | 2 => .iface 266 (.pointer (some ⟨l, 0, none⟩))
  | 3 => .iface 269 (.pointer (some ⟨l, 0, none⟩))
  | 4 => .iface 272 (.pointer (some ⟨l, 0, none⟩))
  | _ => .iface 275 (.pointer (some ⟨l, 0, none⟩))
/-- a flat lock in memory -/
structure FlIs (w : World) (a g k : Nat) (x : Fx) (s : Ar) (S : List Sp) : Prop where
  p : Blk w x.p 279 #[.int .i64 (k : Int), ifV k x.l]
  ki : KIs w a g k x s S
  pa : x.p ≠ a
  pg : x.p ≠ g
  pq : x.p ≠ x.q
/-- the kinds that are walked -/
def KOk (k : Nat) : Prop := k = 1 ∨ k = 2 ∨ k = 3 ∨ k = 4 ∨ k = 5
theorem KOk.of {k : Nat} (h : 1 ≤ k ∧ k ≤ 5) : KOk k := by unfold KOk; omega
theorem KOk.le {k : Nat} (h : KOk k) : 1 ≤ k ∧ k ≤ 5 := by unfold KOk at h; omega
/-- where a slot of a kind may be -/
def pcK (k : Nat) (p : Sp) : Prop :=
  if k = 4 then mcsPc p else if k = 5 then p.pc = 0 ∨ p.pc = 1 ∨ p.pc = 2 ∨ p.pc = 3 ∨ p.pc = 10 ∨ p.pc = 11 else p.pc = 0 ∨ p.pc = 1 ∨ p.pc = 2 ∨ p.pc = 10 ∨ p.pc = 11
section
variable {w w' : World} {a g k : Nat} {x : Fx} {s s' : Ar} {S S' : List Sp} {T : List Nat}
theorem FlIs.turns (h : FlIs w a g k x s S) (t : Turns T w w') (h0 : x.p ∉ T) (h1 : x.l ∉ T) (h2 : a ∉ T) (h3 : g ∉ T) (h4 : x.q ∉ T) : FlIs w' a g k x s S :=
  { h with p := t.blk h.p h0, ki := h.ki.turns t h1 h2 h3 h4 }
theorem FlIs.below (h : FlIs w a g k x s S) (t : Below w.heap.size w w') : FlIs w' a g k x s S :=
  h.turns (T := []) (Turns.of_below t) (by simp) (by simp) (by simp) (by simp) (by simp)
theorem FlIs.to (h : FlIs w a g k x s S) (t : Turns [a, g, x.q] w w') (h2 : KIs w' a g k x s' S') : FlIs w' a g k x s' S' :=
  { h with p := t.blk h.p (by simp [h.pa, h.pg, h.pq]), ki := h2 }
/-- another lock on the same arena has turned -/
theorem FlIs.oth (h : FlIs w a g k x s S) (t : Turns T w w') (ha : ArIs w' a g s') (h0 : x.p ∉ T) (h1 : x.l ∉ T) (h4 : x.q ∉ T) : FlIs w' a g k x s' S :=
  { h with p := t.blk h.p h0, ki := { h.ki with ar := ha, lk := t.blk h.ki.lk h1, sp := h.ki.sp.turns t h4 } }
theorem made_fl (h : FlIs w a g k x s S) (hk : k ≠ 0) : Calls Tryz.prog 202 #[.pointer (some ⟨x.p, 0, none⟩)] w fun e w' => e = .returned (.bool true) ∧ w = w' := by
  have c0 : w.cell? ⟨x.p, 0, none⟩ = some (.int .i64 (k : Int)) := h.p.cell 0
  have u0 : ((k : Int) != 0) = true := by simpa using hk
  clear h
  go_enter Tryz.func202, Tryz.ntmps202
  go_wp2
  go_ret
  exact ⟨rfl, rfl⟩
theorem step_tick {B : Int} (h : KIs w a g 2 x s S) (C : PreK 2 x s S B) (i : Nat) (p : Sp) (hp : S[i]? = some p) (hc : pcK 2 p) :
    Calls Tryz.prog 376 #[.pointer (some ⟨x.l, 0, none⟩), .int .i64 i] w (StOk w a g 2 x s S i p) := by
  have hb := C.sp hp
  have ho := C.ops
  have hB := C.B1
  have hB0 := C.B0
  have hl := C.w.ld (by omega) x.t
  have hc2 : p.pc = 0 ∨ p.pc = 1 ∨ p.pc = 2 ∨ p.pc = 10 ∨ p.pc = 11 := hc
  obtain ⟨pc, u, b, z⟩ := p
  have a0 := hb.a0
  have a1 := hb.a1
  simp only at hc2 a0 a1
  rcases hc2 with rfl | rfl | rfl | rfl | rfl
  · exact step_tick0 h i _ hp (.inl rfl)
  · exact step_tick1 h i u b z hp ho C.inr hl.1 (by omega)
  · exact step_tick2 h i u b z hp ho
  · exact step_tick0 h i _ hp (.inr rfl)
  · exact step_tick11 h i u b z hp ho (by omega) (by omega)
theorem step_tasK {B : Int} (h : KIs w a g 1 x s S) (C : PreK 1 x s S B) (i : Nat) (p : Sp) (hp : S[i]? = some p) (hc : pcK 1 p) :
    Calls Tryz.prog 368 #[.pointer (some ⟨x.l, 0, none⟩), .int .i64 i] w (StOk w a g 1 x s S i p) := by
  have hb := C.sp hp
  have ho := C.ops
  have hB := C.B1
  have hc2 : p.pc = 0 ∨ p.pc = 1 ∨ p.pc = 2 ∨ p.pc = 10 ∨ p.pc = 11 := hc
  obtain ⟨pc, u, b, z⟩ := p
  have a0 := hb.a0
  have a1 := hb.a1
  have b0 := hb.b0
  have b1 := hb.b1
  simp only at hc2 a0 a1 b0 b1
  rcases hc2 with rfl | rfl | rfl | rfl | rfl
  · exact step_tas0 h i _ hp (.inl rfl)
  · exact step_tas1 h i u b z hp ho a0 (by omega)
  · exact step_tas2 h i u b z hp (by omega) (by omega)
  · exact step_tas0 h i _ hp (.inr rfl)
  · exact step_tas11 h i u b z hp ho
theorem step_part {B : Int} (h : KIs w a g 3 x s S) (C : PreK 3 x s S B) (i : Nat) (p : Sp) (hp : S[i]? = some p) (hc : pcK 3 p) :
    Calls Tryz.prog 388 #[.pointer (some ⟨x.l, 0, none⟩), .int .i64 i] w (StOk w a g 3 x s S i p) := by
  have hb := C.sp hp
  have ho := C.ops
  have hB := C.B1
  have hB0 := C.B0
  have hl := C.w.ld (by omega) x.t
  have hc2 : p.pc = 0 ∨ p.pc = 1 ∨ p.pc = 2 ∨ p.pc = 10 ∨ p.pc = 11 := hc
  obtain ⟨pc, u, b, z⟩ := p
  have a0 := hb.a0
  have a1 := hb.a1
  simp only at hc2 a0 a1
  rcases hc2 with rfl | rfl | rfl | rfl | rfl
  · exact step_part0 h i _ hp (.inl rfl)
  · exact step_part1 h i u b z hp ho C.inr hl.1 (by omega)
  · exact step_part2 h i u b z hp ho ⟨a0, by omega⟩
  · exact step_part0 h i _ hp (.inr rfl)
  · exact step_part11 h i u b z hp ho ⟨a0, by omega⟩
theorem step_clh {B : Int} (h : KIs w a g 5 x s S) (C : PreK 5 x s S B) (i : Nat) (p : Sp) (hp : S[i]? = some p) (hc : pcK 5 p) :
    Calls Tryz.prog 412 #[.pointer (some ⟨x.l, 0, none⟩), .int .i64 i] w (StOk w a g 5 x s S i p) := by
  have hb := C.sp hp
  have ho := C.ops
  have hB := C.B1
  have hc2 : p.pc = 0 ∨ p.pc = 1 ∨ p.pc = 2 ∨ p.pc = 3 ∨ p.pc = 10 ∨ p.pc = 11 := hc
  obtain ⟨pc, u, b, z⟩ := p
  have a0 := hb.a0
  have a1 := hb.a1
  have b1 := hb.b1
  have b2 := hb.b2 (by decide)
  simp only at hc2 a0 a1 b1 b2
  rcases hc2 with rfl | rfl | rfl | rfl | rfl | rfl
  · exact step_clh0 h i _ hp (.inl rfl)
  · exact step_clh1 h i u b z hp ho ⟨a0, by omega⟩
  · exact step_clh2 h i u b z hp ho ⟨a0, by omega⟩
  · exact step_clh3 h i u b z hp ho ⟨b2, by omega⟩
  · exact step_clh0 h i _ hp (.inr rfl)
  · exact step_clh11 h i u b z hp ho ⟨a0, by omega⟩
def FlStOk (w : World) (a g k : Nat) (x : Fx) (s : Ar) (S : List Sp) (i : Nat) (p : Sp) (e : Ending) (w' : World) : Prop :=
  e = .returned (.bool (cameK p (stepK k x.t x.m s i p).2)) ∧ FlIs w' a g k x (stepK k x.t x.m s i p).1 (S.set i (stepK k x.t x.m s i p).2) ∧ Turns [a, g, x.q] w w'
def FlAlOk (w : World) (a g k : Nat) (x : Fx) (s : Ar) (S : List Sp) (i : Nat) (p : Sp) (e : Ending) (w' : World) : Prop :=
  e = .returned (.bool (aloneK k x.t s i p).2) ∧ FlIs w' a g k x (aloneK k x.t s i p).1 S ∧ Turns [a, g, x.q] w w'
set_option maxHeartbeats 1000000 in
theorem fl_ask_1 (h : FlIs w a g 1 x s S) (i : Nat) (p : Sp) (hp : S[i]? = some p) :
    Calls Tryz.prog 199 #[.pointer (some ⟨x.p, 0, none⟩), .int .i64 i] w fun e w' => e = .returned (.bool (decide (p.pc = 0))) ∧ FlIs w' a g 1 x s (S.set i (askK 1 p)) ∧ Turns [x.q] w w' := by
  have HM := Lib.hid (made_fl h (by decide))
  have c1 : w.cell? ⟨x.p, 1, none⟩ = some (ifV 1 x.l) := h.p.cell 1
  unfold ifV at c1
  have H := Lib.hid h
  have HC := Lib.hid (fun (k : KIs w a g 1 x s S) => ask_tas k i p hp)
  have H2 := Lib.hid (HC.out h.ki)
  clear h hp HC
  go_enter Tryz.func199, Tryz.ntmps199
  go_wp2_with fail
  refine HM.out.mono ?_
  rintro en w1 ⟨rfl, rfl⟩
  go_wp2_with fail
  refine H2.out.mono ?_
  rintro en w2 ⟨rfl, k2, t2⟩
  have H3 := Lib.hid (And.intro k2 t2)
  clear k2 t2
  go_wp2
  go_ret
  exact ⟨rfl, H.out.to (turns_qag H3.out.2) H3.out.1, H3.out.2⟩
set_option maxHeartbeats 1000000 in
theorem fl_ask_2 (h : FlIs w a g 2 x s S) (i : Nat) (p : Sp) (hp : S[i]? = some p) :
    Calls Tryz.prog 199 #[.pointer (some ⟨x.p, 0, none⟩), .int .i64 i] w fun e w' => e = .returned (.bool (decide (p.pc = 0))) ∧ FlIs w' a g 2 x s (S.set i (askK 2 p)) ∧ Turns [x.q] w w' := by
  have HM := Lib.hid (made_fl h (by decide))
  have c1 : w.cell? ⟨x.p, 1, none⟩ = some (ifV 2 x.l) := h.p.cell 1
  unfold ifV at c1
  have H := Lib.hid h
  have HC := Lib.hid (fun (k : KIs w a g 2 x s S) => ask_ticket k i p hp)
  have H2 := Lib.hid (HC.out h.ki)
  clear h hp HC
  go_enter Tryz.func199, Tryz.ntmps199
  go_wp2_with fail
  refine HM.out.mono ?_
  rintro en w1 ⟨rfl, rfl⟩
  go_wp2_with fail
  refine H2.out.mono ?_
  rintro en w2 ⟨rfl, k2, t2⟩
  have H3 := Lib.hid (And.intro k2 t2)
  clear k2 t2
  go_wp2
  go_ret
  exact ⟨rfl, H.out.to (turns_qag H3.out.2) H3.out.1, H3.out.2⟩
set_option maxHeartbeats 1000000 in
theorem fl_ask_3 (h : FlIs w a g 3 x s S) (i : Nat) (p : Sp) (hp : S[i]? = some p) :
    Calls Tryz.prog 199 #[.pointer (some ⟨x.p, 0, none⟩), .int .i64 i] w fun e w' => e = .returned (.bool (decide (p.pc = 0))) ∧ FlIs w' a g 3 x s (S.set i (askK 3 p)) ∧ Turns [x.q] w w' := by
  have HM := Lib.hid (made_fl h (by decide))
  have c1 : w.cell? ⟨x.p, 1, none⟩ = some (ifV 3 x.l) := h.p.cell 1
  unfold ifV at c1
  have H := Lib.hid h
  have HC := Lib.hid (fun (k : KIs w a g 3 x s S) => ask_parted k i p hp)
  have H2 := Lib.hid (HC.out h.ki)
  clear h hp HC
  go_enter Tryz.func199, Tryz.ntmps199
  go_wp2_with fail
  refine HM.out.mono ?_
  rintro en w1 ⟨rfl, rfl⟩
  go_wp2_with fail
  refine H2.out.mono ?_
  rintro en w2 ⟨rfl, k2, t2⟩
  have H3 := Lib.hid (And.intro k2 t2)
  clear k2 t2
  go_wp2
  go_ret
  exact ⟨rfl, H.out.to (turns_qag H3.out.2) H3.out.1, H3.out.2⟩
set_option maxHeartbeats 1000000 in
theorem fl_ask_4 (h : FlIs w a g 4 x s S) (i : Nat) (p : Sp) (hp : S[i]? = some p) :
    Calls Tryz.prog 199 #[.pointer (some ⟨x.p, 0, none⟩), .int .i64 i] w fun e w' => e = .returned (.bool (decide (p.pc = 0))) ∧ FlIs w' a g 4 x s (S.set i (askK 4 p)) ∧ Turns [x.q] w w' := by
  have HM := Lib.hid (made_fl h (by decide))
  have c1 : w.cell? ⟨x.p, 1, none⟩ = some (ifV 4 x.l) := h.p.cell 1
  unfold ifV at c1
  have H := Lib.hid h
  have HC := Lib.hid (fun (k : KIs w a g 4 x s S) => ask_mcs k i p hp)
  have H2 := Lib.hid (HC.out h.ki)
  clear h hp HC
  go_enter Tryz.func199, Tryz.ntmps199
  go_wp2_with fail
  refine HM.out.mono ?_
  rintro en w1 ⟨rfl, rfl⟩
  go_wp2_with fail
  refine H2.out.mono ?_
  rintro en w2 ⟨rfl, k2, t2⟩
  have H3 := Lib.hid (And.intro k2 t2)
  clear k2 t2
  go_wp2
  go_ret
  exact ⟨rfl, H.out.to (turns_qag H3.out.2) H3.out.1, H3.out.2⟩
set_option maxHeartbeats 1000000 in
theorem fl_ask_5 (h : FlIs w a g 5 x s S) (i : Nat) (p : Sp) (hp : S[i]? = some p) :
    Calls Tryz.prog 199 #[.pointer (some ⟨x.p, 0, none⟩), .int .i64 i] w fun e w' => e = .returned (.bool (decide (p.pc = 0))) ∧ FlIs w' a g 5 x s (S.set i (askK 5 p)) ∧ Turns [x.q] w w' := by
  have HM := Lib.hid (made_fl h (by decide))
  have c1 : w.cell? ⟨x.p, 1, none⟩ = some (ifV 5 x.l) := h.p.cell 1
  unfold ifV at c1
  have H := Lib.hid h
  have HC := Lib.hid (fun (k : KIs w a g 5 x s S) => ask_clh k i p hp)
  have H2 := Lib.hid (HC.out h.ki)
  clear h hp HC
  go_enter Tryz.func199, Tryz.ntmps199
  go_wp2_with fail
  refine HM.out.mono ?_
  rintro en w1 ⟨rfl, rfl⟩
  go_wp2_with fail
  refine H2.out.mono ?_
  rintro en w2 ⟨rfl, k2, t2⟩
  have H3 := Lib.hid (And.intro k2 t2)
  clear k2 t2
  go_wp2
  go_ret
  exact ⟨rfl, H.out.to (turns_qag H3.out.2) H3.out.1, H3.out.2⟩
theorem fl_ask (h : FlIs w a g k x s S) (hk : KOk k) (i : Nat) (p : Sp) (hp : S[i]? = some p) :
    Calls Tryz.prog 199 #[.pointer (some ⟨x.p, 0, none⟩), .int .i64 i] w fun e w' => e = .returned (.bool (decide (p.pc = 0))) ∧ FlIs w' a g k x s (S.set i (askK k p)) ∧ Turns [x.q] w w' := by
  rcases hk with rfl | rfl | rfl | rfl | rfl
  · exact fl_ask_1 h i p hp
  · exact fl_ask_2 h i p hp
  · exact fl_ask_3 h i p hp
  · exact fl_ask_4 h i p hp
  · exact fl_ask_5 h i p hp
set_option maxHeartbeats 1000000 in
theorem fl_leave_1 (h : FlIs w a g 1 x s S) (i : Nat) (p : Sp) (hp : S[i]? = some p) :
    Calls Tryz.prog 206 #[.pointer (some ⟨x.p, 0, none⟩), .int .i64 i] w fun e w' => e = .returned (.bool (decide (p.pc = 10))) ∧ FlIs w' a g 1 x s (S.set i (leaveK p)) ∧ Turns [x.q] w w' := by
  have HM := Lib.hid (made_fl h (by decide))
  have c1 : w.cell? ⟨x.p, 1, none⟩ = some (ifV 1 x.l) := h.p.cell 1
  unfold ifV at c1
  have H := Lib.hid h
  have HC := Lib.hid (fun (k : KIs w a g 1 x s S) => leave_tas k i p hp)
  have H2 := Lib.hid (HC.out h.ki)
  clear h hp HC
  go_enter Tryz.func206, Tryz.ntmps206
  go_wp2_with fail
  refine HM.out.mono ?_
  rintro en w1 ⟨rfl, rfl⟩
  go_wp2_with fail
  refine H2.out.mono ?_
  rintro en w2 ⟨rfl, k2, t2⟩
  have H3 := Lib.hid (And.intro k2 t2)
  clear k2 t2
  go_wp2
  go_ret
  exact ⟨rfl, H.out.to (turns_qag H3.out.2) H3.out.1, H3.out.2⟩
set_option maxHeartbeats 1000000 in
theorem fl_leave_2 (h : FlIs w a g 2 x s S) (i : Nat) (p : Sp) (hp : S[i]? = some p) :
    Calls Tryz.prog 206 #[.pointer (some ⟨x.p, 0, none⟩), .int .i64 i] w fun e w' => e = .returned (.bool (decide (p.pc = 10))) ∧ FlIs w' a g 2 x s (S.set i (leaveK p)) ∧ Turns [x.q] w w' := by
  have HM := Lib.hid (made_fl h (by decide))
  have c1 : w.cell? ⟨x.p, 1, none⟩ = some (ifV 2 x.l) := h.p.cell 1
  unfold ifV at c1
  have H := Lib.hid h
  have HC := Lib.hid (fun (k : KIs w a g 2 x s S) => leave_ticket k i p hp)
  have H2 := Lib.hid (HC.out h.ki)
  clear h hp HC
  go_enter Tryz.func206, Tryz.ntmps206
  go_wp2_with fail
  refine HM.out.mono ?_
  rintro en w1 ⟨rfl, rfl⟩
  go_wp2_with fail
  refine H2.out.mono ?_
  rintro en w2 ⟨rfl, k2, t2⟩
  have H3 := Lib.hid (And.intro k2 t2)
  clear k2 t2
  go_wp2
  go_ret
  exact ⟨rfl, H.out.to (turns_qag H3.out.2) H3.out.1, H3.out.2⟩
set_option maxHeartbeats 1000000 in
theorem fl_leave_3 (h : FlIs w a g 3 x s S) (i : Nat) (p : Sp) (hp : S[i]? = some p) :
    Calls Tryz.prog 206 #[.pointer (some ⟨x.p, 0, none⟩), .int .i64 i] w fun e w' => e = .returned (.bool (decide (p.pc = 10))) ∧ FlIs w' a g 3 x s (S.set i (leaveK p)) ∧ Turns [x.q] w w' := by
  have HM := Lib.hid (made_fl h (by decide))
  have c1 : w.cell? ⟨x.p, 1, none⟩ = some (ifV 3 x.l) := h.p.cell 1
  unfold ifV at c1
  have H := Lib.hid h
  have HC := Lib.hid (fun (k : KIs w a g 3 x s S) => leave_parted k i p hp)
  have H2 := Lib.hid (HC.out h.ki)
  clear h hp HC
  go_enter Tryz.func206, Tryz.ntmps206
  go_wp2_with fail
  refine HM.out.mono ?_
  rintro en w1 ⟨rfl, rfl⟩
  go_wp2_with fail
  refine H2.out.mono ?_
  rintro en w2 ⟨rfl, k2, t2⟩
  have H3 := Lib.hid (And.intro k2 t2)
  clear k2 t2
  go_wp2
  go_ret
  exact ⟨rfl, H.out.to (turns_qag H3.out.2) H3.out.1, H3.out.2⟩
set_option maxHeartbeats 1000000 in
theorem fl_leave_4 (h : FlIs w a g 4 x s S) (i : Nat) (p : Sp) (hp : S[i]? = some p) :
    Calls Tryz.prog 206 #[.pointer (some ⟨x.p, 0, none⟩), .int .i64 i] w fun e w' => e = .returned (.bool (decide (p.pc = 10))) ∧ FlIs w' a g 4 x s (S.set i (leaveK p)) ∧ Turns [x.q] w w' := by
  have HM := Lib.hid (made_fl h (by decide))
  have c1 : w.cell? ⟨x.p, 1, none⟩ = some (ifV 4 x.l) := h.p.cell 1
  unfold ifV at c1
  have H := Lib.hid h
  have HC := Lib.hid (fun (k : KIs w a g 4 x s S) => leave_mcs k i p hp)
  have H2 := Lib.hid (HC.out h.ki)
  clear h hp HC
  go_enter Tryz.func206, Tryz.ntmps206
  go_wp2_with fail
  refine HM.out.mono ?_
  rintro en w1 ⟨rfl, rfl⟩
  go_wp2_with fail
  refine H2.out.mono ?_
  rintro en w2 ⟨rfl, k2, t2⟩
  have H3 := Lib.hid (And.intro k2 t2)
  clear k2 t2
  go_wp2
  go_ret
  exact ⟨rfl, H.out.to (turns_qag H3.out.2) H3.out.1, H3.out.2⟩
set_option maxHeartbeats 1000000 in
theorem fl_leave_5 (h : FlIs w a g 5 x s S) (i : Nat) (p : Sp) (hp : S[i]? = some p) :
    Calls Tryz.prog 206 #[.pointer (some ⟨x.p, 0, none⟩), .int .i64 i] w fun e w' => e = .returned (.bool (decide (p.pc = 10))) ∧ FlIs w' a g 5 x s (S.set i (leaveK p)) ∧ Turns [x.q] w w' := by
  have HM := Lib.hid (made_fl h (by decide))
  have c1 : w.cell? ⟨x.p, 1, none⟩ = some (ifV 5 x.l) := h.p.cell 1
  unfold ifV at c1
  have H := Lib.hid h
  have HC := Lib.hid (fun (k : KIs w a g 5 x s S) => leave_clh k i p hp)
  have H2 := Lib.hid (HC.out h.ki)
  clear h hp HC
  go_enter Tryz.func206, Tryz.ntmps206
  go_wp2_with fail
  refine HM.out.mono ?_
  rintro en w1 ⟨rfl, rfl⟩
  go_wp2_with fail
  refine H2.out.mono ?_
  rintro en w2 ⟨rfl, k2, t2⟩
  have H3 := Lib.hid (And.intro k2 t2)
  clear k2 t2
  go_wp2
  go_ret
  exact ⟨rfl, H.out.to (turns_qag H3.out.2) H3.out.1, H3.out.2⟩
theorem fl_leave (h : FlIs w a g k x s S) (hk : KOk k) (i : Nat) (p : Sp) (hp : S[i]? = some p) :
    Calls Tryz.prog 206 #[.pointer (some ⟨x.p, 0, none⟩), .int .i64 i] w fun e w' => e = .returned (.bool (decide (p.pc = 10))) ∧ FlIs w' a g k x s (S.set i (leaveK p)) ∧ Turns [x.q] w w' := by
  rcases hk with rfl | rfl | rfl | rfl | rfl
  · exact fl_leave_1 h i p hp
  · exact fl_leave_2 h i p hp
  · exact fl_leave_3 h i p hp
  · exact fl_leave_4 h i p hp
  · exact fl_leave_5 h i p hp
set_option maxHeartbeats 1000000 in
theorem fl_step_1 (h : FlIs w a g 1 x s S) (i : Nat) (p : Sp) (hp : S[i]? = some p) {B : Int} (C : PreK 1 x s S B) (hc : pcK 1 p) :
    Calls Tryz.prog 203 #[.pointer (some ⟨x.p, 0, none⟩), .int .i64 i] w (FlStOk w a g 1 x s S i p) := by
  have HM := Lib.hid (made_fl h (by decide))
  have c1 : w.cell? ⟨x.p, 1, none⟩ = some (ifV 1 x.l) := h.p.cell 1
  unfold ifV at c1
  have H := Lib.hid h
  have HC := Lib.hid (fun (k : KIs w a g 1 x s S) => step_tasK k C i p hp hc)
  have H2 := Lib.hid (HC.out h.ki)
  clear h hp HC C hc
  go_enter Tryz.func203, Tryz.ntmps203
  go_wp2_with fail
  refine HM.out.mono ?_
  rintro en w1 ⟨rfl, rfl⟩
  go_wp2_with fail
  refine H2.out.mono ?_
  rintro en w2 ⟨rfl, k2, t2⟩
  have H3 := Lib.hid (And.intro k2 t2)
  clear k2 t2
  go_wp2
  go_ret
  exact ⟨rfl, H.out.to H3.out.2 H3.out.1, H3.out.2⟩
set_option maxHeartbeats 1000000 in
theorem fl_step_2 (h : FlIs w a g 2 x s S) (i : Nat) (p : Sp) (hp : S[i]? = some p) {B : Int} (C : PreK 2 x s S B) (hc : pcK 2 p) :
    Calls Tryz.prog 203 #[.pointer (some ⟨x.p, 0, none⟩), .int .i64 i] w (FlStOk w a g 2 x s S i p) := by
  have HM := Lib.hid (made_fl h (by decide))
  have c1 : w.cell? ⟨x.p, 1, none⟩ = some (ifV 2 x.l) := h.p.cell 1
  unfold ifV at c1
  have H := Lib.hid h
  have HC := Lib.hid (fun (k : KIs w a g 2 x s S) => step_tick k C i p hp hc)
  have H2 := Lib.hid (HC.out h.ki)
  clear h hp HC C hc
  go_enter Tryz.func203, Tryz.ntmps203
  go_wp2_with fail
  refine HM.out.mono ?_
  rintro en w1 ⟨rfl, rfl⟩
  go_wp2_with fail
  refine H2.out.mono ?_
  rintro en w2 ⟨rfl, k2, t2⟩
  have H3 := Lib.hid (And.intro k2 t2)
  clear k2 t2
  go_wp2
  go_ret
  exact ⟨rfl, H.out.to H3.out.2 H3.out.1, H3.out.2⟩
set_option maxHeartbeats 1000000 in
theorem fl_step_3 (h : FlIs w a g 3 x s S) (i : Nat) (p : Sp) (hp : S[i]? = some p) {B : Int} (C : PreK 3 x s S B) (hc : pcK 3 p) :
    Calls Tryz.prog 203 #[.pointer (some ⟨x.p, 0, none⟩), .int .i64 i] w (FlStOk w a g 3 x s S i p) := by
  have HM := Lib.hid (made_fl h (by decide))
  have c1 : w.cell? ⟨x.p, 1, none⟩ = some (ifV 3 x.l) := h.p.cell 1
  unfold ifV at c1
  have H := Lib.hid h
  have HC := Lib.hid (fun (k : KIs w a g 3 x s S) => step_part k C i p hp hc)
  have H2 := Lib.hid (HC.out h.ki)
  clear h hp HC C hc
  go_enter Tryz.func203, Tryz.ntmps203
  go_wp2_with fail
  refine HM.out.mono ?_
  rintro en w1 ⟨rfl, rfl⟩
  go_wp2_with fail
  refine H2.out.mono ?_
  rintro en w2 ⟨rfl, k2, t2⟩
  have H3 := Lib.hid (And.intro k2 t2)
  clear k2 t2
  go_wp2
  go_ret
  exact ⟨rfl, H.out.to H3.out.2 H3.out.1, H3.out.2⟩
set_option maxHeartbeats 1000000 in
theorem fl_step_4 (h : FlIs w a g 4 x s S) (i : Nat) (p : Sp) (hp : S[i]? = some p) {B : Int} (C : PreK 4 x s S B) (hc : pcK 4 p) :
    Calls Tryz.prog 203 #[.pointer (some ⟨x.p, 0, none⟩), .int .i64 i] w (FlStOk w a g 4 x s S i p) := by
  have HM := Lib.hid (made_fl h (by decide))
  have c1 : w.cell? ⟨x.p, 1, none⟩ = some (ifV 4 x.l) := h.p.cell 1
  unfold ifV at c1
  have H := Lib.hid h
  have HC := Lib.hid (fun (k : KIs w a g 4 x s S) => step_mcs k C i p hp hc)
  have H2 := Lib.hid (HC.out h.ki)
  clear h hp HC C hc
  go_enter Tryz.func203, Tryz.ntmps203
  go_wp2_with fail
  refine HM.out.mono ?_
  rintro en w1 ⟨rfl, rfl⟩
  go_wp2_with fail
  refine H2.out.mono ?_
  rintro en w2 ⟨rfl, k2, t2⟩
  have H3 := Lib.hid (And.intro k2 t2)
  clear k2 t2
  go_wp2
  go_ret
  exact ⟨rfl, H.out.to H3.out.2 H3.out.1, H3.out.2⟩
set_option maxHeartbeats 1000000 in
theorem fl_step_5 (h : FlIs w a g 5 x s S) (i : Nat) (p : Sp) (hp : S[i]? = some p) {B : Int} (C : PreK 5 x s S B) (hc : pcK 5 p) :
    Calls Tryz.prog 203 #[.pointer (some ⟨x.p, 0, none⟩), .int .i64 i] w (FlStOk w a g 5 x s S i p) := by
  have HM := Lib.hid (made_fl h (by decide))
  have c1 : w.cell? ⟨x.p, 1, none⟩ = some (ifV 5 x.l) := h.p.cell 1
  unfold ifV at c1
  have H := Lib.hid h
  have HC := Lib.hid (fun (k : KIs w a g 5 x s S) => step_clh k C i p hp hc)
  have H2 := Lib.hid (HC.out h.ki)
  clear h hp HC C hc
  go_enter Tryz.func203, Tryz.ntmps203
  go_wp2_with fail
  refine HM.out.mono ?_
  rintro en w1 ⟨rfl, rfl⟩
  go_wp2_with fail
  refine H2.out.mono ?_
  rintro en w2 ⟨rfl, k2, t2⟩
  have H3 := Lib.hid (And.intro k2 t2)
  clear k2 t2
  go_wp2
  go_ret
  exact ⟨rfl, H.out.to H3.out.2 H3.out.1, H3.out.2⟩
theorem fl_step (h : FlIs w a g k x s S) (hk : KOk k) (i : Nat) (p : Sp) (hp : S[i]? = some p) {B : Int} (C : PreK k x s S B) (hc : pcK k p) :
    Calls Tryz.prog 203 #[.pointer (some ⟨x.p, 0, none⟩), .int .i64 i] w (FlStOk w a g k x s S i p) := by
  rcases hk with rfl | rfl | rfl | rfl | rfl
  · exact fl_step_1 h i p hp C hc
  · exact fl_step_2 h i p hp C hc
  · exact fl_step_3 h i p hp C hc
  · exact fl_step_4 h i p hp C hc
  · exact fl_step_5 h i p hp C hc
set_option maxHeartbeats 1000000 in
theorem fl_alone_1 (h : FlIs w a g 1 x s S) (i : Nat) (p : Sp) (hp : S[i]? = some p) {B : Int} (C : PreK 1 x s S B) (hc : p.pc = 10) :
    Calls Tryz.prog 205 #[.pointer (some ⟨x.p, 0, none⟩), .int .i64 i] w (FlAlOk w a g 1 x s S i p) := by
  have HM := Lib.hid (made_fl h (by decide))
  have c1 : w.cell? ⟨x.p, 1, none⟩ = some (ifV 1 x.l) := h.p.cell 1
  unfold ifV at c1
  have H := Lib.hid h
  have HC := Lib.hid (fun (k : KIs w a g 1 x s S) => alone_lone k i p hp hc)
  have H2 := Lib.hid (HC.out h.ki)
  clear h hp HC C hc
  go_enter Tryz.func205, Tryz.ntmps205
  go_wp2_with fail
  refine HM.out.mono ?_
  rintro en w1 ⟨rfl, rfl⟩
  go_wp2_with fail
  refine H2.out.mono ?_
  rintro en w2 ⟨rfl, k2, t2⟩
  have H3 := Lib.hid (And.intro k2 t2)
  clear k2 t2
  go_wp2
  go_ret
  exact ⟨rfl, H.out.to H3.out.2 H3.out.1, H3.out.2⟩
set_option maxHeartbeats 1000000 in
theorem fl_alone_2 (h : FlIs w a g 2 x s S) (i : Nat) (p : Sp) (hp : S[i]? = some p) {B : Int} (C : PreK 2 x s S B) (hc : p.pc = 10) :
    Calls Tryz.prog 205 #[.pointer (some ⟨x.p, 0, none⟩), .int .i64 i] w (FlAlOk w a g 2 x s S i p) := by
  have HM := Lib.hid (made_fl h (by decide))
  have c1 : w.cell? ⟨x.p, 1, none⟩ = some (ifV 2 x.l) := h.p.cell 1
  unfold ifV at c1
  have H := Lib.hid h
  have HC := Lib.hid (fun (k : KIs w a g 2 x s S) => alone_tick k i p hp hc C.ops (by have := (C.sp hp).a0; omega) (by have := (C.sp hp).a1; have := C.B1; omega))
  have H2 := Lib.hid (HC.out h.ki)
  clear h hp HC C hc
  go_enter Tryz.func205, Tryz.ntmps205
  go_wp2_with fail
  refine HM.out.mono ?_
  rintro en w1 ⟨rfl, rfl⟩
  go_wp2_with fail
  refine H2.out.mono ?_
  rintro en w2 ⟨rfl, k2, t2⟩
  have H3 := Lib.hid (And.intro k2 t2)
  clear k2 t2
  go_wp2
  go_ret
  exact ⟨rfl, H.out.to H3.out.2 H3.out.1, H3.out.2⟩
set_option maxHeartbeats 1000000 in
theorem fl_alone_3 (h : FlIs w a g 3 x s S) (i : Nat) (p : Sp) (hp : S[i]? = some p) {B : Int} (C : PreK 3 x s S B) (hc : p.pc = 10) :
    Calls Tryz.prog 205 #[.pointer (some ⟨x.p, 0, none⟩), .int .i64 i] w (FlAlOk w a g 3 x s S i p) := by
  have HM := Lib.hid (made_fl h (by decide))
  have c1 : w.cell? ⟨x.p, 1, none⟩ = some (ifV 3 x.l) := h.p.cell 1
  unfold ifV at c1
  have H := Lib.hid h
  have HC := Lib.hid (fun (k : KIs w a g 3 x s S) => alone_parted k i p hp hc C.ops ⟨(C.sp hp).a0, by have := (C.sp hp).a1; have := C.B1; omega⟩)
  have H2 := Lib.hid (HC.out h.ki)
  clear h hp HC C hc
  go_enter Tryz.func205, Tryz.ntmps205
  go_wp2_with fail
  refine HM.out.mono ?_
  rintro en w1 ⟨rfl, rfl⟩
  go_wp2_with fail
  refine H2.out.mono ?_
  rintro en w2 ⟨rfl, k2, t2⟩
  have H3 := Lib.hid (And.intro k2 t2)
  clear k2 t2
  go_wp2
  go_ret
  exact ⟨rfl, H.out.to H3.out.2 H3.out.1, H3.out.2⟩
set_option maxHeartbeats 1000000 in
theorem fl_alone_4 (h : FlIs w a g 4 x s S) (i : Nat) (p : Sp) (hp : S[i]? = some p) {B : Int} (C : PreK 4 x s S B) (hc : p.pc = 10) :
    Calls Tryz.prog 205 #[.pointer (some ⟨x.p, 0, none⟩), .int .i64 i] w (FlAlOk w a g 4 x s S i p) := by
  have HM := Lib.hid (made_fl h (by decide))
  have c1 : w.cell? ⟨x.p, 1, none⟩ = some (ifV 4 x.l) := h.p.cell 1
  unfold ifV at c1
  have H := Lib.hid h
  have HC := Lib.hid (fun (k : KIs w a g 4 x s S) => alone_mcs k i p hp hc C.ops)
  have H2 := Lib.hid (HC.out h.ki)
  clear h hp HC C hc
  go_enter Tryz.func205, Tryz.ntmps205
  go_wp2_with fail
  refine HM.out.mono ?_
  rintro en w1 ⟨rfl, rfl⟩
  go_wp2_with fail
  refine H2.out.mono ?_
  rintro en w2 ⟨rfl, k2, t2⟩
  have H3 := Lib.hid (And.intro k2 t2)
  clear k2 t2
  go_wp2
  go_ret
  exact ⟨rfl, H.out.to H3.out.2 H3.out.1, H3.out.2⟩
set_option maxHeartbeats 1000000 in
theorem fl_alone_5 (h : FlIs w a g 5 x s S) (i : Nat) (p : Sp) (hp : S[i]? = some p) {B : Int} (C : PreK 5 x s S B) (hc : p.pc = 10) :
    Calls Tryz.prog 205 #[.pointer (some ⟨x.p, 0, none⟩), .int .i64 i] w (FlAlOk w a g 5 x s S i p) := by
  have HM := Lib.hid (made_fl h (by decide))
  have c1 : w.cell? ⟨x.p, 1, none⟩ = some (ifV 5 x.l) := h.p.cell 1
  unfold ifV at c1
  have H := Lib.hid h
  have HC := Lib.hid (fun (k : KIs w a g 5 x s S) => alone_clh k i p hp hc C.ops)
  have H2 := Lib.hid (HC.out h.ki)
  clear h hp HC C hc
  go_enter Tryz.func205, Tryz.ntmps205
  go_wp2_with fail
  refine HM.out.mono ?_
  rintro en w1 ⟨rfl, rfl⟩
  go_wp2_with fail
  refine H2.out.mono ?_
  rintro en w2 ⟨rfl, k2, t2⟩
  have H3 := Lib.hid (And.intro k2 t2)
  clear k2 t2
  go_wp2
  go_ret
  exact ⟨rfl, H.out.to H3.out.2 H3.out.1, H3.out.2⟩
theorem fl_alone (h : FlIs w a g k x s S) (hk : KOk k) (i : Nat) (p : Sp) (hp : S[i]? = some p) {B : Int} (C : PreK k x s S B) (hc : p.pc = 10) :
    Calls Tryz.prog 205 #[.pointer (some ⟨x.p, 0, none⟩), .int .i64 i] w (FlAlOk w a g k x s S i p) := by
  rcases hk with rfl | rfl | rfl | rfl | rfl
  · exact fl_alone_1 h i p hp C hc
  · exact fl_alone_2 h i p hp C hc
  · exact fl_alone_3 h i p hp C hc
  · exact fl_alone_4 h i p hp C hc
  · exact fl_alone_5 h i p hp C hc
end
end Go.Proofs.YtagajjilccjplaaGreat
end
section
set_option linter.unusedVariables false
set_option linter.unusedSimpArgs false
/- Layer 20 (flat): a new flat lock, exactly. (printed by gen_fn2.py) -/
namespace Go.Proofs.YtagajjilccjplaaGreat
open Go.RowKit

/-- a new flat lock, exactly -/
def NewFl (w : World) (a g k : Nat) (s : Ar) (n m : Nat) (e : Ending) (w' : World) : Prop :=
  ∃ x : Fx, e = .returned (.tuple #[.pointer (some ⟨x.p, 0, none⟩), .int .i64 0]) ∧ FlIs w' a g k x (newAr_ k s n m) (newSpK k n) ∧ (w.heap.size ≤ x.p ∧ w.heap.size ≤ x.l ∧ w.heap.size ≤ x.q ∧ x.n = n ∧ x.m = m ∧ x.t = s.W.length + 1) ∧ Turns [a, g] w w'
set_option maxRecDepth 100000 in
set_option maxHeartbeats 4000000 in
theorem flNew_1 {w : World} {a g : Nat} {s : Ar} (h : ArIs w a g s) (n : Nat) (h1 : 1 ≤ n) (h2 : n ≤ 32) (m : Nat) (hm1 : 1 ≤ m) (hm2 : m ≤ 4) (hr : s.W.length + szK 1 n m ≤ s.room) (ho : s.ops + 1 ≤ 1000000000000) :
    Calls Tryz.prog 90 #[.pointer (some ⟨a, 0, none⟩), .int .i64 1, .int .i64 n, .int .i64 m] w (NewFl w a g 1 s n m) := by
  have H2 := Lib.hid (tasNewX h n h1 h2 m hm1 hm2 (show s.W.length + (1) ≤ s.room from hr))
  have HG := Lib.hid (And.intro h.blk.lt h.wds.lt)
  clear h hr ho
  go_enter Tryz.func90, Tryz.ntmps90
  go_wp2_with fail
  refine H2.out.mono ?_
  rintro en w1 ⟨x, rfl, e1, e2, e3⟩
  have HE := Lib.hid (And.intro e1 (And.intro e2 e3))
  clear e1 e2 e3
  go_wp2
  go_ret2
  obtain ⟨e1, e2, e3⟩ := HE.out
  have hq := e1.sp.lt
  have hs := e3.size
  have hg := HG.out
  have tA : Turns [] w1 (w1.alloc (.cells #[.int .i64 ((1 : Nat) : Int), ifV 1 x.l] 279)) := (Turns.refl _ _).alloc _
  exact ⟨{ x with p := w1.heap.size }, rfl, ⟨Blk.new w1 279 #[.int .i64 ((1 : Nat) : Int), ifV 1 x.l], ⟨e1.ar.turns tA (by simp) (by simp), tA.blk e1.lk (by simp), e1.sp.turns tA (by simp), e1.n, e1.la, e1.lg, e1.lq, e1.qa, e1.qg, e1.n32, e1.t0, e1.t1, e1.m0, e1.m1, e1.cap⟩, by show w1.heap.size ≠ a; omega, by show w1.heap.size ≠ g; omega, by show w1.heap.size ≠ x.q; omega⟩, ⟨by show w.heap.size ≤ w1.heap.size; omega, e2.1, e2.2.1, e2.2.2.1, e2.2.2.2.1, e2.2.2.2.2.1⟩, e3.alloc _⟩
set_option maxRecDepth 100000 in
set_option maxHeartbeats 4000000 in
theorem flNew_2 {w : World} {a g : Nat} {s : Ar} (h : ArIs w a g s) (n : Nat) (h1 : 1 ≤ n) (h2 : n ≤ 32) (m : Nat) (hm1 : 1 ≤ m) (hm2 : m ≤ 4) (hr : s.W.length + szK 2 n m ≤ s.room) (ho : s.ops + 1 ≤ 1000000000000) :
    Calls Tryz.prog 90 #[.pointer (some ⟨a, 0, none⟩), .int .i64 2, .int .i64 n, .int .i64 m] w (NewFl w a g 2 s n m) := by
  have H2 := Lib.hid (ticketNewX h n h1 h2 m hm1 hm2 (show s.W.length + (2) ≤ s.room from hr))
  have HG := Lib.hid (And.intro h.blk.lt h.wds.lt)
  clear h hr ho
  go_enter Tryz.func90, Tryz.ntmps90
  go_wp2_with fail
  refine H2.out.mono ?_
  rintro en w1 ⟨x, rfl, e1, e2, e3⟩
  have HE := Lib.hid (And.intro e1 (And.intro e2 e3))
  clear e1 e2 e3
  go_wp2
  go_ret2
  obtain ⟨e1, e2, e3⟩ := HE.out
  have hq := e1.sp.lt
  have hs := e3.size
  have hg := HG.out
  have tA : Turns [] w1 (w1.alloc (.cells #[.int .i64 ((2 : Nat) : Int), ifV 2 x.l] 279)) := (Turns.refl _ _).alloc _
  exact ⟨{ x with p := w1.heap.size }, rfl, ⟨Blk.new w1 279 #[.int .i64 ((2 : Nat) : Int), ifV 2 x.l], ⟨e1.ar.turns tA (by simp) (by simp), tA.blk e1.lk (by simp), e1.sp.turns tA (by simp), e1.n, e1.la, e1.lg, e1.lq, e1.qa, e1.qg, e1.n32, e1.t0, e1.t1, e1.m0, e1.m1, e1.cap⟩, by show w1.heap.size ≠ a; omega, by show w1.heap.size ≠ g; omega, by show w1.heap.size ≠ x.q; omega⟩, ⟨by show w.heap.size ≤ w1.heap.size; omega, e2.1, e2.2.1, e2.2.2.1, e2.2.2.2.1, e2.2.2.2.2.1⟩, e3.alloc _⟩
set_option maxRecDepth 100000 in
set_option maxHeartbeats 4000000 in
theorem flNew_3 {w : World} {a g : Nat} {s : Ar} (h : ArIs w a g s) (n : Nat) (h1 : 1 ≤ n) (h2 : n ≤ 32) (m : Nat) (hm1 : 1 ≤ m) (hm2 : m ≤ 4) (hr : s.W.length + szK 3 n m ≤ s.room) (ho : s.ops + 1 ≤ 1000000000000) :
    Calls Tryz.prog 90 #[.pointer (some ⟨a, 0, none⟩), .int .i64 3, .int .i64 n, .int .i64 m] w (NewFl w a g 3 s n m) := by
  have H2 := Lib.hid (partedNewX h n h1 h2 m hm1 hm2 (show s.W.length + (1 + m) ≤ s.room from hr) ho)
  have HG := Lib.hid (And.intro h.blk.lt h.wds.lt)
  clear h hr ho
  go_enter Tryz.func90, Tryz.ntmps90
  go_wp2_with fail
  refine H2.out.mono ?_
  rintro en w1 ⟨x, rfl, e1, e2, e3⟩
  have HE := Lib.hid (And.intro e1 (And.intro e2 e3))
  clear e1 e2 e3
  go_wp2
  go_ret2
  obtain ⟨e1, e2, e3⟩ := HE.out
  have hq := e1.sp.lt
  have hs := e3.size
  have hg := HG.out
  have tA : Turns [] w1 (w1.alloc (.cells #[.int .i64 ((3 : Nat) : Int), ifV 3 x.l] 279)) := (Turns.refl _ _).alloc _
  exact ⟨{ x with p := w1.heap.size }, rfl, ⟨Blk.new w1 279 #[.int .i64 ((3 : Nat) : Int), ifV 3 x.l], ⟨e1.ar.turns tA (by simp) (by simp), tA.blk e1.lk (by simp), e1.sp.turns tA (by simp), e1.n, e1.la, e1.lg, e1.lq, e1.qa, e1.qg, e1.n32, e1.t0, e1.t1, e1.m0, e1.m1, e1.cap⟩, by show w1.heap.size ≠ a; omega, by show w1.heap.size ≠ g; omega, by show w1.heap.size ≠ x.q; omega⟩, ⟨by show w.heap.size ≤ w1.heap.size; omega, e2.1, e2.2.1, e2.2.2.1, e2.2.2.2.1, e2.2.2.2.2.1⟩, e3.alloc _⟩
set_option maxRecDepth 100000 in
set_option maxHeartbeats 4000000 in
theorem flNew_4 {w : World} {a g : Nat} {s : Ar} (h : ArIs w a g s) (n : Nat) (h1 : 1 ≤ n) (h2 : n ≤ 32) (m : Nat) (hm1 : 1 ≤ m) (hm2 : m ≤ 4) (hr : s.W.length + szK 4 n m ≤ s.room) (ho : s.ops + 1 ≤ 1000000000000) :
    Calls Tryz.prog 90 #[.pointer (some ⟨a, 0, none⟩), .int .i64 4, .int .i64 n, .int .i64 m] w (NewFl w a g 4 s n m) := by
  have H2 := Lib.hid (mcsNewX h n h1 h2 m hm1 hm2 (show s.W.length + (1 + 2 * n) ≤ s.room from hr))
  have HG := Lib.hid (And.intro h.blk.lt h.wds.lt)
  clear h hr ho
  go_enter Tryz.func90, Tryz.ntmps90
  go_wp2_with fail
  refine H2.out.mono ?_
  rintro en w1 ⟨x, rfl, e1, e2, e3⟩
  have HE := Lib.hid (And.intro e1 (And.intro e2 e3))
  clear e1 e2 e3
  go_wp2
  go_ret2
  obtain ⟨e1, e2, e3⟩ := HE.out
  have hq := e1.sp.lt
  have hs := e3.size
  have hg := HG.out
  have tA : Turns [] w1 (w1.alloc (.cells #[.int .i64 ((4 : Nat) : Int), ifV 4 x.l] 279)) := (Turns.refl _ _).alloc _
  exact ⟨{ x with p := w1.heap.size }, rfl, ⟨Blk.new w1 279 #[.int .i64 ((4 : Nat) : Int), ifV 4 x.l], ⟨e1.ar.turns tA (by simp) (by simp), tA.blk e1.lk (by simp), e1.sp.turns tA (by simp), e1.n, e1.la, e1.lg, e1.lq, e1.qa, e1.qg, e1.n32, e1.t0, e1.t1, e1.m0, e1.m1, e1.cap⟩, by show w1.heap.size ≠ a; omega, by show w1.heap.size ≠ g; omega, by show w1.heap.size ≠ x.q; omega⟩, ⟨by show w.heap.size ≤ w1.heap.size; omega, e2.1, e2.2.1, e2.2.2.1, e2.2.2.2.1, e2.2.2.2.2.1⟩, e3.alloc _⟩
set_option maxRecDepth 100000 in
set_option maxHeartbeats 4000000 in
theorem flNew_5 {w : World} {a g : Nat} {s : Ar} (h : ArIs w a g s) (n : Nat) (h1 : 1 ≤ n) (h2 : n ≤ 32) (m : Nat) (hm1 : 1 ≤ m) (hm2 : m ≤ 4) (hr : s.W.length + szK 5 n m ≤ s.room) (ho : s.ops + 1 ≤ 1000000000000) :
    Calls Tryz.prog 90 #[.pointer (some ⟨a, 0, none⟩), .int .i64 5, .int .i64 n, .int .i64 m] w (NewFl w a g 5 s n m) := by
  have H2 := Lib.hid (clhNewX h n h1 h2 m hm1 hm2 (show s.W.length + (n + 2) ≤ s.room from hr) ho)
  have HG := Lib.hid (And.intro h.blk.lt h.wds.lt)
  clear h hr ho
  go_enter Tryz.func90, Tryz.ntmps90
  go_wp2_with fail
  refine H2.out.mono ?_
  rintro en w1 ⟨x, rfl, e1, e2, e3⟩
  have HE := Lib.hid (And.intro e1 (And.intro e2 e3))
  clear e1 e2 e3
  go_wp2
  go_ret2
  obtain ⟨e1, e2, e3⟩ := HE.out
  have hq := e1.sp.lt
  have hs := e3.size
  have hg := HG.out
  have tA : Turns [] w1 (w1.alloc (.cells #[.int .i64 ((5 : Nat) : Int), ifV 5 x.l] 279)) := (Turns.refl _ _).alloc _
  exact ⟨{ x with p := w1.heap.size }, rfl, ⟨Blk.new w1 279 #[.int .i64 ((5 : Nat) : Int), ifV 5 x.l], ⟨e1.ar.turns tA (by simp) (by simp), tA.blk e1.lk (by simp), e1.sp.turns tA (by simp), e1.n, e1.la, e1.lg, e1.lq, e1.qa, e1.qg, e1.n32, e1.t0, e1.t1, e1.m0, e1.m1, e1.cap⟩, by show w1.heap.size ≠ a; omega, by show w1.heap.size ≠ g; omega, by show w1.heap.size ≠ x.q; omega⟩, ⟨by show w.heap.size ≤ w1.heap.size; omega, e2.1, e2.2.1, e2.2.2.1, e2.2.2.2.1, e2.2.2.2.2.1⟩, e3.alloc _⟩
theorem flNew {w : World} {a g : Nat} {s : Ar} (h : ArIs w a g s) (k : Nat) (hk : KOk k) (n : Nat) (h1 : 1 ≤ n) (h2 : n ≤ 32) (m : Nat) (hm1 : 1 ≤ m) (hm2 : m ≤ 4) (hr : s.W.length + szK k n m ≤ s.room) (ho : s.ops + 1 ≤ 1000000000000) :
    Calls Tryz.prog 90 #[.pointer (some ⟨a, 0, none⟩), .int .i64 (k : Int), .int .i64 n, .int .i64 m] w (NewFl w a g k s n m) := by
  rcases hk with rfl | rfl | rfl | rfl | rfl
  · exact flNew_1 h n h1 h2 m hm1 hm2 hr ho
  · exact flNew_2 h n h1 h2 m hm1 hm2 hr ho
  · exact flNew_3 h n h1 h2 m hm1 hm2 hr ho
  · exact flNew_4 h n h1 h2 m hm1 hm2 hr ho
  · exact flNew_5 h n h1 h2 m hm1 hm2 hr ho
end Go.Proofs.YtagajjilccjplaaGreat
end
section
set_option linter.unusedVariables false
set_option linter.unusedSimpArgs false
/- Layer 6: trees of places as lists of parents; plain data, no program in sight. -/
namespace Go.Proofs.YtagajjilccjplaaGreat
open Go.RowKit

def okP (P : List Int) (v : Nat) : Bool := decide ((v = 0 → P.getD v 0 = -1) ∧ (0 < v → 0 ≤ P.getD v 0 ∧ P.getD v 0 < v))
def treeB (P : List Int) : Bool := (List.range P.length).all (okP P)
def leafB (P : List Int) (v : Int) : Bool := decide (0 ≤ v ∧ v < P.length ∧ v ∉ P)
def leavesTo (P : List Int) (k : Nat) : List Int := ((List.range k).map Int.ofNat).filter (leafB P)
def leavesL (P : List Int) : List Int := leavesTo P P.length
def dep (P : List Int) : Nat → Int → Nat
  | 0, _ => 0
  | f + 1, v => if 0 ≤ v ∧ v < P.length then dep P f (P.getD v.toNat 0) + 1 else 0
def depL (P : List Int) (v : Int) : Nat := dep P P.length v
def evenB (P : List Int) : Bool := (leavesL P).all fun v => decide (depL P v = depL P ((leavesL P).headD 0) ∧ depL P v ≤ 5)
def thrB (P T : List Int) : Bool := T.all (leafB P)
def manyB (P T : List Int) : Bool := decide (P.length < 1 ∨ 32 < P.length ∨ T.length < 1 ∨ 32 < T.length)
def chkT (P T : List Int) : Int := if manyB P T then 8 else if treeB P = false then 9 else if evenB P = false then 9 else if thrB P T = false then 4 else 0

theorem getD_of {P : List Int} {k : Nat} {p : Int} (h : P[k]? = some p) : P.getD k 0 = p := by rw [List.getD_eq_getElem?_getD, h]; rfl
theorem range_all_succ (f : Nat → Bool) (k : Nat) : (List.range (k + 1)).all f = ((List.range k).all f && f k) := by rw [List.range_succ, List.all_append]; simp
theorem tree_at {P : List Int} (h : treeB P = true) {k : Nat} {p : Int} (hk : P[k]? = some p) : (k = 0 → p = -1) ∧ (0 < k → 0 ≤ p ∧ p < k) := by
  have hlt := (List.getElem?_eq_some_iff.1 hk).1
  unfold treeB at h
  rw [List.all_eq_true] at h
  have := h k (List.mem_range.2 hlt)
  simp only [okP, decide_eq_true_eq, getD_of hk] at this
  exact this
theorem tree_lt {P : List Int} (h : treeB P = true) {k : Nat} {p : Int} (hk : P[k]? = some p) : -1 ≤ p ∧ p < k := by
  have := tree_at h hk
  rcases Nat.eq_zero_or_pos k with h0 | h0
  · have := this.1 h0; omega
  · have := this.2 h0; omega
/-- enough fuel is enough -/
theorem dep_fuel {P : List Int} (h : treeB P = true) : ∀ (f : Nat) (v : Int), v < f → ∀ g : Nat, v < g → dep P f v = dep P g v
  | 0, v, hv, g, hg => by
    cases g with
    | zero => rfl
    | succ g => unfold dep; rw [if_neg (by omega)]
  | f + 1, v, hv, g, hg => by
    cases g with
    | zero => unfold dep; rw [if_neg (by omega)]
    | succ g =>
      unfold dep
      split
      · rename_i hb
        obtain ⟨p, hp⟩ := getElem?_lt (show v.toNat < P.length by omega)
        have := tree_lt h hp
        rw [getD_of hp, dep_fuel h f p (by omega) g (by omega)]
      · rfl
theorem depL_step {P : List Int} (h : treeB P = true) {k : Nat} {p : Int} (hk : P[k]? = some p) : depL P k = if 0 ≤ p then depL P p + 1 else 1 := by
  have hlt := (List.getElem?_eq_some_iff.1 hk).1
  have hp := tree_lt h hk
  unfold depL
  rw [dep_fuel h P.length k (by omega) (k + 1) (by omega)]
  show (if 0 ≤ (k : Int) ∧ (k : Int) < P.length then dep P k (P.getD (k : Int).toNat 0) + 1 else 0) = _
  rw [if_pos (by omega), Int.toNat_natCast, getD_of hk]
  split
  · rw [dep_fuel h k p (by omega) P.length (by omega)]
  · have : dep P k p = 0 := by
      cases k with
      | zero => rfl
      | succ k => unfold dep; rw [if_neg (by omega)]
    omega
theorem dep_le (P : List Int) : ∀ (f : Nat) (v : Int), dep P f v ≤ f
  | 0, _ => Nat.le_refl _
  | f + 1, v => by
    unfold dep
    split
    · have := dep_le P f (P.getD v.toNat 0); omega
    · omega
theorem depL_le (P : List Int) (v : Int) : depL P v ≤ P.length := dep_le P _ _

theorem leavesTo_succ (P : List Int) (k : Nat) : leavesTo P (k + 1) = if leafB P k then leavesTo P k ++ [(k : Int)] else leavesTo P k := by
  unfold leavesTo
  rw [List.range_succ, List.map_append, List.filter_append]
  show _ ++ List.filter (leafB P) [(k : Int)] = _
  by_cases h : leafB P k = true
  · simp [h]
  · simp [h]
theorem leavesTo_len (P : List Int) : ∀ k, (leavesTo P k).length ≤ k := fun k => by
  unfold leavesTo
  have := List.length_filter_le (leafB P) ((List.range k).map Int.ofNat)
  simpa using this
theorem mem_leaves {P : List Int} {v : Int} : v ∈ leavesL P ↔ leafB P v = true := by
  unfold leavesL leavesTo
  rw [List.mem_filter]
  constructor
  · exact fun h => h.2
  · intro h
    refine ⟨?_, h⟩
    simp only [leafB, decide_eq_true_eq] at h
    rw [List.mem_map]
    exact ⟨v.toNat, List.mem_range.2 (by omega), by show ((v.toNat : Nat) : Int) = v; omega⟩
theorem mem_take {P : List Int} {k : Nat} {p : Int} (hk : P[k]? = some p) (x : Int) : x ∈ P.take (k + 1) ↔ x ∈ P.take k ∨ x = p := by
  rw [take_succ_of hk]; simp
/-- a list over a range, one place written -/
theorem range_set {α : Type} (n i : Nat) (f g : Nat → α) (u : α) (hi : g i = u) (ho : ∀ j, j ≠ i → g j = f j) : ((List.range n).map f).set i u = (List.range n).map g := by
  refine List.ext_getElem? fun j => ?_
  rw [List.getElem?_set]
  by_cases hji : i = j
  · subst hji
    rw [if_pos rfl]
    by_cases hin : i < n
    · simp [hin, hi]
    · simp [hin]
  · rw [if_neg hji]
    by_cases hjn : j < n
    · simp [hjn, ho j (fun h => hji h.symm)]
    · simp [hjn]
theorem range_get {α : Type} (n i : Nat) (f : Nat → α) (h : i < n) : ((List.range n).map f)[i]? = some (f i) := by simp [h]
end Go.Proofs.YtagajjilccjplaaGreat
end
section
set_option linter.unusedVariables false
set_option linter.unusedSimpArgs false
/- slices.Index, Contains, IndexFunc (at two closures) and ContainsFunc over ints (written by wip/gen_top2.py). -/
namespace Go.Proofs.YtagajjilccjplaaGreat
open Go.RowKit

def idxI (l : List Int) (x : Int) : Int := if x ∈ l then ((l.idxOf x : Nat) : Int) else -1
theorem idx_hit {l : List Int} {k : Nat} {x : Int} (h : l[k]? = some x) (hn : x ∉ l.take k) : idxI l x = k := by
  unfold idxI
  have hm : x ∈ l := List.mem_of_getElem? h
  obtain ⟨hk, he⟩ := List.getElem?_eq_some_iff.1 h
  rw [if_pos hm]
  have hl : l = l.take k ++ (x :: l.drop (k + 1)) := by
    conv => lhs; rw [← List.take_append_drop k l, List.drop_eq_getElem_cons hk, he]
  have : l.idxOf x = k := by
    rw [hl, List.idxOf_append]
    rw [if_neg hn, List.idxOf_cons_self]
    simp; omega
  rw [this]
theorem idx_none {l : List Int} {x : Int} (hn : x ∉ l) : idxI l x = -1 := by unfold idxI; rw [if_neg hn]
theorem idx_nonneg (l : List Int) (x : Int) : (0 ≤ idxI l x ↔ x ∈ l) ∧ idxI l x < l.length ∧ -1 ≤ idxI l x := by
  unfold idxI
  split
  · rename_i h
    have := List.idxOf_lt_length_of_mem h
    exact ⟨by simp [h], by omega, by omega⟩
  · rename_i h
    exact ⟨by simp [h], by omega, by omega⟩
def fidx (p : Int → Bool) (l : List Int) : Int := match l.findIdx? p with | some i => (i : Int) | none => -1
theorem fidx_hit {p : Int → Bool} {l : List Int} {k : Nat} {x : Int} (h : l[k]? = some x) (hp : p x = true) (hn : ∀ y ∈ l.take k, p y = false) : fidx p l = k := by
  obtain ⟨hk, he⟩ := List.getElem?_eq_some_iff.1 h
  have : l.findIdx? p = some k := by
    rw [List.findIdx?_eq_some_iff_getElem]
    refine ⟨hk, by rw [he]; exact hp, fun j hj => ?_⟩
    have := hn l[j] (List.mem_take_iff_getElem.2 ⟨j, by omega, rfl⟩)
    simp [this]
  unfold fidx
  rw [this]
theorem fidx_none {p : Int → Bool} {l : List Int} (hn : ∀ y ∈ l, p y = false) : fidx p l = -1 := by
  have : l.findIdx? p = none := by rw [List.findIdx?_eq_none_iff]; exact hn
  unfold fidx
  rw [this]
theorem fidx_nonneg (p : Int → Bool) (l : List Int) : (decide (0 ≤ fidx p l) = l.any p) ∧ fidx p l < l.length ∧ -1 ≤ fidx p l := by
  unfold fidx
  cases h : l.findIdx? p with
  | none =>
    rw [List.findIdx?_eq_none_iff] at h
    refine ⟨?_, by show (-1 : Int) < _; omega, by show (-1 : Int) ≤ -1; omega⟩
    symm
    show _ = decide ((0 : Int) ≤ -1)
    rw [show decide ((0 : Int) ≤ -1) = false from rfl, List.any_eq_false]
    intro x hx hp
    rw [h x hx] at hp; cases hp
  | some i =>
    rw [List.findIdx?_eq_some_iff_getElem] at h
    obtain ⟨hi, hp, _⟩ := h
    refine ⟨?_, by show (i : Int) < _; omega, by show (-1 : Int) ≤ (i : Int); omega⟩
    rw [decide_eq_true (show (0 : Int) ≤ (i : Int) by omega)]
    symm
    rw [List.any_eq_true]
    exact ⟨l[i], List.getElem_mem hi, hp⟩

set_option maxHeartbeats 1000000 in
theorem index_any (w : World) (v : Value) (l : List Int) (x : Int) (h : RdL w v 1 encI l) :
    Calls Tryz.prog 108 #[v, .int .i64 x] w fun e w' => e = .returned (.int .i64 (idxI l x)) ∧ w = w' := by
  obtain ⟨A, cap, rfl, l1, l2, hr⟩ := h
  have HR := Lib.hid hr
  clear hr
  go_enter Tryz.func108, Tryz.ntmps108
  go_wp2
  go_loop [8] (fun i => ∃ k : Nat, i = .int .i64 k ∧ k ≤ l.length ∧ x ∉ l.take k) (fun i => l.length - (intOf i).toNat)
  case atStart => exact ⟨0, rfl, by omega, by simp⟩
  case round =>
    obtain ⟨k, rfl, hk, hn⟩ := hrel
    by_cases hlt : k < l.length
    · obtain ⟨bl, off, rfl, hbl, hc⟩ := HR.out (by omega)
      obtain ⟨y, hy⟩ := getElem?_lt hlt
      have c0 := hc k y hy 0 _ rfl
      simp only [Nat.add_zero, Nat.mul_one] at c0
      have HY := Lib.hid (And.intro hy hn)
      clear hc hy hn
      cases hxy : (x == y)
      · have hne : Hid (x ∉ l.take (k + 1)) := Lib.hid (by
          rw [mem_take HY.out.1]
          rintro (h | h)
          · exact HY.out.2 h
          · rw [h] at hxy; simp at hxy)
        go_wp2
        go_round
        case rel => exact ⟨k + 1, by go_num, by omega, hne.out⟩
        case measure => simp [intOf]; omega
      · have hid : Hid (idxI l x = k) := Lib.hid (idx_hit (by rw [beq_iff_eq.1 hxy]; exact HY.out.1) HY.out.2)
        go_wp2
        go_ret
        exact ⟨ret_int hid.out.symm, rfl⟩
    · obtain rfl : k = l.length := by omega
      rw [List.take_length] at hn
      have hid : Hid (idxI l x = -1) := Lib.hid (idx_none hn)
      clear hn
      go_wp2
      go_ret
      exact ⟨ret_int hid.out.symm, rfl⟩
theorem contains_any (w : World) (v : Value) (l : List Int) (x : Int) (h : RdL w v 1 encI l) :
    Calls Tryz.prog 83 #[v, .int .i64 x] w fun e w' => e = .returned (.bool (decide (x ∈ l))) ∧ w = w' := by
  have HI := Lib.hid (index_any w v l x h)
  have hb : decide (x ∈ l) = decide (0 ≤ idxI l x) := decide_eq_decide.2 (idx_nonneg l x).1.symm
  have HB := Lib.hid hb
  clear h hb
  go_enter Tryz.func83, Tryz.ntmps83
  go_wp2_with (go_at_call 108; refine HI.out.mono ?_; rintro e w' ⟨rfl, rfl⟩)
  go_ret
  exact ⟨ret_bool HB.out.symm, rfl⟩

theorem chkC_any (w : World) (b : Nat) (v : Value) (l : List Int) (x : Int) (hc : w.cell? ⟨b, 0, none⟩ = some v) (h : RdL w v 1 encI l) :
    Calls Tryz.prog 82 #[.int .i64 x, .pointer (some ⟨b, 0, none⟩)] w fun e w' => e = .returned (.bool (!decide (x ∈ l))) ∧ w = w' := by
  have HI := Lib.hid (contains_any w v l x h)
  clear h
  go_enter Tryz.func82, Tryz.ntmps82
  go_wp2_with (go_at_call 83; refine HI.out.mono ?_; rintro e w' ⟨rfl, rfl⟩)
  go_ret
  exact ⟨ret_bool (by simp), rfl⟩
set_option maxHeartbeats 1000000 in
theorem chkF_any (w : World) (b : Nat) (ve v : Value) (en l : List Int) (hcell : w.cell? ⟨b, 0, none⟩ = some ve) (hen : RdL w ve 1 encI en) (h : RdL w v 1 encI l) :
    Calls Tryz.prog 107 #[v, .func (.func 82) #[] #[.pointer (some ⟨b, 0, none⟩)]] w fun e w' => e = .returned (.int .i64 (fidx (fun x => !decide (x ∈ en)) l)) ∧ w = w' := by
  obtain ⟨A, cap, rfl, l1, l2, hr⟩ := h
  have HR := Lib.hid hr
  have HE := Lib.hid (And.intro hcell hen)
  clear hr hcell hen
  go_enter Tryz.func107, Tryz.ntmps107
  go_wp2
  go_loop [8] (fun i => ∃ k : Nat, i = .int .i64 k ∧ k ≤ l.length ∧ ∀ x ∈ l.take k, (!decide (x ∈ en)) = false) (fun i => l.length - (intOf i).toNat)
  case atStart => exact ⟨0, rfl, by omega, by simp⟩
  case round =>
    obtain ⟨k, rfl, hk, hn⟩ := hrel
    by_cases hlt : k < l.length
    · obtain ⟨bl, off, rfl, hbl, hc⟩ := HR.out (by omega)
      obtain ⟨y, hy⟩ := getElem?_lt hlt
      have c0 := hc k y hy 0 _ rfl
      simp only [Nat.add_zero, Nat.mul_one] at c0
      have HY := Lib.hid (And.intro hy hn)
      clear hc hy hn
      have HC := Lib.hid (chkC_any w b ve en y HE.out.1 HE.out.2)
      cases hp : (!decide (y ∈ en))
      · have hne : Hid (∀ x ∈ l.take (k + 1), (!decide (x ∈ en)) = false) := Lib.hid (by
          intro x hx
          rcases (mem_take HY.out.1 x).1 hx with h | h
          · exact HY.out.2 x h
          · rw [h]; exact hp)
        rw [hp] at HC
        clear hp
        go_wp2_with (go_at_call 82; refine HC.out.mono ?_; rintro e w' ⟨rfl, rfl⟩)
        go_round
        case rel => exact ⟨k + 1, by go_num, by omega, hne.out⟩
        case measure => simp [intOf]; omega
      · have hid : Hid (fidx (fun x => !decide (x ∈ en)) l = k) := Lib.hid (fidx_hit HY.out.1 hp HY.out.2)
        rw [hp] at HC
        clear hp
        go_wp2_with (go_at_call 82; refine HC.out.mono ?_; rintro e w' ⟨rfl, rfl⟩)
        go_ret
        exact ⟨ret_int hid.out.symm, rfl⟩
    · obtain rfl : k = l.length := by omega
      rw [List.take_length] at hn
      have hid : Hid (fidx (fun x => !decide (x ∈ en)) l = -1) := Lib.hid (fidx_none hn)
      clear hn
      go_wp2
      go_ret
      exact ⟨ret_int hid.out.symm, rfl⟩

theorem containsFunc_any (w : World) (b : Nat) (ve v : Value) (en l : List Int) (hcell : w.cell? ⟨b, 0, none⟩ = some ve) (hen : RdL w ve 1 encI en) (h : RdL w v 1 encI l) :
    Calls Tryz.prog 81 #[v, .func (.func 82) #[] #[.pointer (some ⟨b, 0, none⟩)]] w fun e w' => e = .returned (.bool (l.any fun x => !decide (x ∈ en))) ∧ w = w' := by
  have HI := Lib.hid (chkF_any w b ve v en l hcell hen h)
  have HB := Lib.hid (fidx_nonneg (fun x => !decide (x ∈ en)) l).1
  clear h hcell hen
  go_enter Tryz.func81, Tryz.ntmps81
  go_wp2_with (go_at_call 107; refine HI.out.mono ?_; rintro e w' ⟨rfl, rfl⟩)
  go_ret
  exact ⟨ret_bool HB.out, rfl⟩
end Go.Proofs.YtagajjilccjplaaGreat
end
