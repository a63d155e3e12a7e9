/- Joined: FlD, CoV, CoW. -/
import Derived.Handy
import Derived.Test.YtmlcfmickonfbaaGreatMgReadersAll1
import Derived.Test.YtmlcfmickonfbaaGreatMgReadersAll5
section
set_option linter.unusedVariables false
set_option linter.unusedSimpArgs false
/- Layer 20 (flat): a flat lock in memory; made, Kind, Spot, Ask, Leave, Step, Alone. (printed by gen_fld.py) -/
namespace Go.Proofs.YtmlcfmickonfbaaGreat
open Go.RowKit

def ifV (k l : Nat) : Value :=
  match k with
  | 1 => .iface 125 (.agg #[.pointer (some ⟨l, 0, none⟩)])
  | 2 => .iface 126 (.pointer (some ⟨l, 0, none⟩))
  | 3 => .iface 129 (.pointer (some ⟨l, 0, none⟩))
  | 4 => .iface 132 (.pointer (some ⟨l, 0, none⟩))
  | _ => .iface 135 (.pointer (some ⟨l, 0, none⟩))
/-- a flat lock in memory -/
structure FlIs (w : World) (a g k : Nat) (x : Fx) (s : Ar) (S : List Sp) : Prop where
  p : Blk w x.p 139 #[.int .i64 (k : Int), ifV k x.l]
  ki : KIs w a g k x s S
  pa : x.p ≠ a
  pg : x.p ≠ g
  pq : x.p ≠ x.q
/-- the kinds that are walked -/
def KOk (k : Nat) : Prop := k = 1 ∨ k = 2 ∨ k = 3 ∨ k = 4 ∨ k = 5
theorem KOk.of {k : Nat} (h : 1 ≤ k ∧ k ≤ 5) : KOk k := by unfold KOk; omega
theorem KOk.le {k : Nat} (h : KOk k) : 1 ≤ k ∧ k ≤ 5 := by unfold KOk at h; omega
/-- where a slot of a kind may be -/
def pcK (k : Nat) (p : Sp) : Prop :=
  if k = 4 then mcsPc p else if k = 5 then p.pc = 0 ∨ p.pc = 1 ∨ p.pc = 2 ∨ p.pc = 3 ∨ p.pc = 10 ∨ p.pc = 11 else p.pc = 0 ∨ p.pc = 1 ∨ p.pc = 2 ∨ p.pc = 10 ∨ p.pc = 11
section
variable {w w' : World} {a g k : Nat} {x : Fx} {s s' : Ar} {S S' : List Sp} {T : List Nat}
theorem FlIs.turns (h : FlIs w a g k x s S) (t : Turns T w w') (h0 : x.p ∉ T) (h1 : x.l ∉ T) (h2 : a ∉ T) (h3 : g ∉ T) (h4 : x.q ∉ T) : FlIs w' a g k x s S :=
  { h with p := t.blk h.p h0, ki := h.ki.turns t h1 h2 h3 h4 }
theorem FlIs.below (h : FlIs w a g k x s S) (t : Below w.heap.size w w') : FlIs w' a g k x s S :=
  h.turns (T := []) (Turns.of_below t) (by simp) (by simp) (by simp) (by simp) (by simp)
theorem FlIs.to (h : FlIs w a g k x s S) (t : Turns [a, g, x.q] w w') (h2 : KIs w' a g k x s' S') : FlIs w' a g k x s' S' :=
  { h with p := t.blk h.p (by simp [h.pa, h.pg, h.pq]), ki := h2 }
/-- another lock on the same arena has turned -/
theorem FlIs.oth (h : FlIs w a g k x s S) (t : Turns T w w') (ha : ArIs w' a g s') (h0 : x.p ∉ T) (h1 : x.l ∉ T) (h4 : x.q ∉ T) : FlIs w' a g k x s' S :=
  { h with p := t.blk h.p h0, ki := { h.ki with ar := ha, lk := t.blk h.ki.lk h1, sp := h.ki.sp.turns t h4 } }
theorem made_fl (h : FlIs w a g k x s S) (hk : k ≠ 0) : Calls Tryz.prog 79 #[.pointer (some ⟨x.p, 0, none⟩)] w fun e w' => e = .returned (.bool true) ∧ w = w' := by
  have c0 : w.cell? ⟨x.p, 0, none⟩ = some (.int .i64 (k : Int)) := h.p.cell 0
  have u0 : ((k : Int) != 0) = true := by simpa using hk
  clear h
  go_enter Tryz.func79, Tryz.ntmps79
  go_wp2
  go_ret
  exact ⟨rfl, rfl⟩
theorem step_tick {B : Int} (h : KIs w a g 2 x s S) (C : PreK 2 x s S B) (i : Nat) (p : Sp) (hp : S[i]? = some p) (hc : pcK 2 p) :
    Calls Tryz.prog 161 #[.pointer (some ⟨x.l, 0, none⟩), .int .i64 i] w (StOk w a g 2 x s S i p) := by
  have hb := C.sp hp
  have ho := C.ops
  have hB := C.B1
  have hB0 := C.B0
  have hl := C.w.ld (by omega) x.t
  have hc2 : p.pc = 0 ∨ p.pc = 1 ∨ p.pc = 2 ∨ p.pc = 10 ∨ p.pc = 11 := hc
  obtain ⟨pc, u, b, z⟩ := p
  have a0 := hb.a0
  have a1 := hb.a1
  simp only at hc2 a0 a1
  rcases hc2 with rfl | rfl | rfl | rfl | rfl
  · exact step_tick0 h i _ hp (.inl rfl)
  · exact step_tick1 h i u b z hp ho C.inr hl.1 (by omega)
  · exact step_tick2 h i u b z hp ho
  · exact step_tick0 h i _ hp (.inr rfl)
  · exact step_tick11 h i u b z hp ho (by omega) (by omega)
theorem step_tasK {B : Int} (h : KIs w a g 1 x s S) (C : PreK 1 x s S B) (i : Nat) (p : Sp) (hp : S[i]? = some p) (hc : pcK 1 p) :
    Calls Tryz.prog 150 #[.pointer (some ⟨x.l, 0, none⟩), .int .i64 i] w (StOk w a g 1 x s S i p) := by
  have hb := C.sp hp
  have ho := C.ops
  have hB := C.B1
  have hc2 : p.pc = 0 ∨ p.pc = 1 ∨ p.pc = 2 ∨ p.pc = 10 ∨ p.pc = 11 := hc
  obtain ⟨pc, u, b, z⟩ := p
  have a0 := hb.a0
  have a1 := hb.a1
  have b0 := hb.b0
  have b1 := hb.b1
  simp only at hc2 a0 a1 b0 b1
  rcases hc2 with rfl | rfl | rfl | rfl | rfl
  · exact step_tas0 h i _ hp (.inl rfl)
  · exact step_tas1 h i u b z hp ho a0 (by omega)
  · exact step_tas2 h i u b z hp (by omega) (by omega)
  · exact step_tas0 h i _ hp (.inr rfl)
  · exact step_tas11 h i u b z hp ho
theorem step_part {B : Int} (h : KIs w a g 3 x s S) (C : PreK 3 x s S B) (i : Nat) (p : Sp) (hp : S[i]? = some p) (hc : pcK 3 p) :
    Calls Tryz.prog 172 #[.pointer (some ⟨x.l, 0, none⟩), .int .i64 i] w (StOk w a g 3 x s S i p) := by
  have hb := C.sp hp
  have ho := C.ops
  have hB := C.B1
  have hB0 := C.B0
  have hl := C.w.ld (by omega) x.t
  have hc2 : p.pc = 0 ∨ p.pc = 1 ∨ p.pc = 2 ∨ p.pc = 10 ∨ p.pc = 11 := hc
  obtain ⟨pc, u, b, z⟩ := p
  have a0 := hb.a0
  have a1 := hb.a1
  simp only at hc2 a0 a1
  rcases hc2 with rfl | rfl | rfl | rfl | rfl
  · exact step_part0 h i _ hp (.inl rfl)
  · exact step_part1 h i u b z hp ho C.inr hl.1 (by omega)
  · exact step_part2 h i u b z hp ho ⟨a0, by omega⟩
  · exact step_part0 h i _ hp (.inr rfl)
  · exact step_part11 h i u b z hp ho ⟨a0, by omega⟩
theorem step_clh {B : Int} (h : KIs w a g 5 x s S) (C : PreK 5 x s S B) (i : Nat) (p : Sp) (hp : S[i]? = some p) (hc : pcK 5 p) :
    Calls Tryz.prog 199 #[.pointer (some ⟨x.l, 0, none⟩), .int .i64 i] w (StOk w a g 5 x s S i p) := by
  have hb := C.sp hp
  have ho := C.ops
  have hB := C.B1
  have hc2 : p.pc = 0 ∨ p.pc = 1 ∨ p.pc = 2 ∨ p.pc = 3 ∨ p.pc = 10 ∨ p.pc = 11 := hc
  obtain ⟨pc, u, b, z⟩ := p
  have a0 := hb.a0
  have a1 := hb.a1
  have b1 := hb.b1
  have b2 := hb.b2 (by decide)
  simp only at hc2 a0 a1 b1 b2
  rcases hc2 with rfl | rfl | rfl | rfl | rfl | rfl
  · exact step_clh0 h i _ hp (.inl rfl)
  · exact step_clh1 h i u b z hp ho ⟨a0, by omega⟩
  · exact step_clh2 h i u b z hp ho ⟨a0, by omega⟩
  · exact step_clh3 h i u b z hp ho ⟨b2, by omega⟩
  · exact step_clh0 h i _ hp (.inr rfl)
  · exact step_clh11 h i u b z hp ho ⟨a0, by omega⟩
def FlStOk (w : World) (a g k : Nat) (x : Fx) (s : Ar) (S : List Sp) (i : Nat) (p : Sp) (e : Ending) (w' : World) : Prop :=
  e = .returned (.bool (cameK p (stepK k x.t x.m s i p).2)) ∧ FlIs w' a g k x (stepK k x.t x.m s i p).1 (S.set i (stepK k x.t x.m s i p).2) ∧ Turns [a, g, x.q] w w'
def FlAlOk (w : World) (a g k : Nat) (x : Fx) (s : Ar) (S : List Sp) (i : Nat) (p : Sp) (e : Ending) (w' : World) : Prop :=
  e = .returned (.bool (aloneK k x.t s i p).2) ∧ FlIs w' a g k x (aloneK k x.t s i p).1 S ∧ Turns [a, g, x.q] w w'
set_option maxHeartbeats 1000000 in
theorem fl_ask_1 (h : FlIs w a g 1 x s S) (i : Nat) (p : Sp) (hp : S[i]? = some p) :
    Calls Tryz.prog 50 #[.pointer (some ⟨x.p, 0, none⟩), .int .i64 i] w fun e w' => e = .returned (.bool (decide (p.pc = 0))) ∧ FlIs w' a g 1 x s (S.set i (askK 1 p)) ∧ Turns [x.q] w w' := by
  have HM := Lib.hid (made_fl h (by decide))
  have c1 : w.cell? ⟨x.p, 1, none⟩ = some (ifV 1 x.l) := h.p.cell 1
  unfold ifV at c1
  have H := Lib.hid h
  have HC := Lib.hid (fun (k : KIs w a g 1 x s S) => ask_tas k i p hp)
  have H2 := Lib.hid (HC.out h.ki)
  clear h hp HC
  go_enter Tryz.func50, Tryz.ntmps50
  go_wp2_with fail
  refine HM.out.mono ?_
  rintro en w1 ⟨rfl, rfl⟩
  go_wp2_with fail
  refine H2.out.mono ?_
  rintro en w2 ⟨rfl, k2, t2⟩
  have H3 := Lib.hid (And.intro k2 t2)
  clear k2 t2
  go_wp2
  go_ret
  exact ⟨rfl, H.out.to (turns_qag H3.out.2) H3.out.1, H3.out.2⟩
set_option maxHeartbeats 1000000 in
theorem fl_ask_2 (h : FlIs w a g 2 x s S) (i : Nat) (p : Sp) (hp : S[i]? = some p) :
    Calls Tryz.prog 50 #[.pointer (some ⟨x.p, 0, none⟩), .int .i64 i] w fun e w' => e = .returned (.bool (decide (p.pc = 0))) ∧ FlIs w' a g 2 x s (S.set i (askK 2 p)) ∧ Turns [x.q] w w' := by
  have HM := Lib.hid (made_fl h (by decide))
  have c1 : w.cell? ⟨x.p, 1, none⟩ = some (ifV 2 x.l) := h.p.cell 1
  unfold ifV at c1
  have H := Lib.hid h
  have HC := Lib.hid (fun (k : KIs w a g 2 x s S) => ask_ticket k i p hp)
  have H2 := Lib.hid (HC.out h.ki)
  clear h hp HC
  go_enter Tryz.func50, Tryz.ntmps50
  go_wp2_with fail
  refine HM.out.mono ?_
  rintro en w1 ⟨rfl, rfl⟩
  go_wp2_with fail
  refine H2.out.mono ?_
  rintro en w2 ⟨rfl, k2, t2⟩
  have H3 := Lib.hid (And.intro k2 t2)
  clear k2 t2
  go_wp2
  go_ret
  exact ⟨rfl, H.out.to (turns_qag H3.out.2) H3.out.1, H3.out.2⟩
set_option maxHeartbeats 1000000 in
theorem fl_ask_3 (h : FlIs w a g 3 x s S) (i : Nat) (p : Sp) (hp : S[i]? = some p) :
    Calls Tryz.prog 50 #[.pointer (some ⟨x.p, 0, none⟩), .int .i64 i] w fun e w' => e = .returned (.bool (decide (p.pc = 0))) ∧ FlIs w' a g 3 x s (S.set i (askK 3 p)) ∧ Turns [x.q] w w' := by
  have HM := Lib.hid (made_fl h (by decide))
  have c1 : w.cell? ⟨x.p, 1, none⟩ = some (ifV 3 x.l) := h.p.cell 1
  unfold ifV at c1
  have H := Lib.hid h
  have HC := Lib.hid (fun (k : KIs w a g 3 x s S) => ask_parted k i p hp)
  have H2 := Lib.hid (HC.out h.ki)
  clear h hp HC
  go_enter Tryz.func50, Tryz.ntmps50
  go_wp2_with fail
  refine HM.out.mono ?_
  rintro en w1 ⟨rfl, rfl⟩
  go_wp2_with fail
  refine H2.out.mono ?_
  rintro en w2 ⟨rfl, k2, t2⟩
  have H3 := Lib.hid (And.intro k2 t2)
  clear k2 t2
  go_wp2
  go_ret
  exact ⟨rfl, H.out.to (turns_qag H3.out.2) H3.out.1, H3.out.2⟩
set_option maxHeartbeats 1000000 in
theorem fl_ask_4 (h : FlIs w a g 4 x s S) (i : Nat) (p : Sp) (hp : S[i]? = some p) :
    Calls Tryz.prog 50 #[.pointer (some ⟨x.p, 0, none⟩), .int .i64 i] w fun e w' => e = .returned (.bool (decide (p.pc = 0))) ∧ FlIs w' a g 4 x s (S.set i (askK 4 p)) ∧ Turns [x.q] w w' := by
  have HM := Lib.hid (made_fl h (by decide))
  have c1 : w.cell? ⟨x.p, 1, none⟩ = some (ifV 4 x.l) := h.p.cell 1
  unfold ifV at c1
  have H := Lib.hid h
  have HC := Lib.hid (fun (k : KIs w a g 4 x s S) => ask_mcs k i p hp)
  have H2 := Lib.hid (HC.out h.ki)
  clear h hp HC
  go_enter Tryz.func50, Tryz.ntmps50
  go_wp2_with fail
  refine HM.out.mono ?_
  rintro en w1 ⟨rfl, rfl⟩
  go_wp2_with fail
  refine H2.out.mono ?_
  rintro en w2 ⟨rfl, k2, t2⟩
  have H3 := Lib.hid (And.intro k2 t2)
  clear k2 t2
  go_wp2
  go_ret
  exact ⟨rfl, H.out.to (turns_qag H3.out.2) H3.out.1, H3.out.2⟩
set_option maxHeartbeats 1000000 in
theorem fl_ask_5 (h : FlIs w a g 5 x s S) (i : Nat) (p : Sp) (hp : S[i]? = some p) :
    Calls Tryz.prog 50 #[.pointer (some ⟨x.p, 0, none⟩), .int .i64 i] w fun e w' => e = .returned (.bool (decide (p.pc = 0))) ∧ FlIs w' a g 5 x s (S.set i (askK 5 p)) ∧ Turns [x.q] w w' := by
  have HM := Lib.hid (made_fl h (by decide))
  have c1 : w.cell? ⟨x.p, 1, none⟩ = some (ifV 5 x.l) := h.p.cell 1
  unfold ifV at c1
  have H := Lib.hid h
  have HC := Lib.hid (fun (k : KIs w a g 5 x s S) => ask_clh k i p hp)
  have H2 := Lib.hid (HC.out h.ki)
  clear h hp HC
  go_enter Tryz.func50, Tryz.ntmps50
  go_wp2_with fail
  refine HM.out.mono ?_
  rintro en w1 ⟨rfl, rfl⟩
  go_wp2_with fail
  refine H2.out.mono ?_
  rintro en w2 ⟨rfl, k2, t2⟩
  have H3 := Lib.hid (And.intro k2 t2)
  clear k2 t2
  go_wp2
  go_ret
  exact ⟨rfl, H.out.to (turns_qag H3.out.2) H3.out.1, H3.out.2⟩
theorem fl_ask (h : FlIs w a g k x s S) (hk : KOk k) (i : Nat) (p : Sp) (hp : S[i]? = some p) :
    Calls Tryz.prog 50 #[.pointer (some ⟨x.p, 0, none⟩), .int .i64 i] w fun e w' => e = .returned (.bool (decide (p.pc = 0))) ∧ FlIs w' a g k x s (S.set i (askK k p)) ∧ Turns [x.q] w w' := by
  rcases hk with rfl | rfl | rfl | rfl | rfl
  · exact fl_ask_1 h i p hp
  · exact fl_ask_2 h i p hp
  · exact fl_ask_3 h i p hp
  · exact fl_ask_4 h i p hp
  · exact fl_ask_5 h i p hp
set_option maxHeartbeats 1000000 in
theorem fl_leave_1 (h : FlIs w a g 1 x s S) (i : Nat) (p : Sp) (hp : S[i]? = some p) :
    Calls Tryz.prog 90 #[.pointer (some ⟨x.p, 0, none⟩), .int .i64 i] w fun e w' => e = .returned (.bool (decide (p.pc = 10))) ∧ FlIs w' a g 1 x s (S.set i (leaveK p)) ∧ Turns [x.q] w w' := by
  have HM := Lib.hid (made_fl h (by decide))
  have c1 : w.cell? ⟨x.p, 1, none⟩ = some (ifV 1 x.l) := h.p.cell 1
  unfold ifV at c1
  have H := Lib.hid h
  have HC := Lib.hid (fun (k : KIs w a g 1 x s S) => leave_tas k i p hp)
  have H2 := Lib.hid (HC.out h.ki)
  clear h hp HC
  go_enter Tryz.func90, Tryz.ntmps90
  go_wp2_with fail
  refine HM.out.mono ?_
  rintro en w1 ⟨rfl, rfl⟩
  go_wp2_with fail
  refine H2.out.mono ?_
  rintro en w2 ⟨rfl, k2, t2⟩
  have H3 := Lib.hid (And.intro k2 t2)
  clear k2 t2
  go_wp2
  go_ret
  exact ⟨rfl, H.out.to (turns_qag H3.out.2) H3.out.1, H3.out.2⟩
set_option maxHeartbeats 1000000 in
theorem fl_leave_2 (h : FlIs w a g 2 x s S) (i : Nat) (p : Sp) (hp : S[i]? = some p) :
    Calls Tryz.prog 90 #[.pointer (some ⟨x.p, 0, none⟩), .int .i64 i] w fun e w' => e = .returned (.bool (decide (p.pc = 10))) ∧ FlIs w' a g 2 x s (S.set i (leaveK p)) ∧ Turns [x.q] w w' := by
  have HM := Lib.hid (made_fl h (by decide))
  have c1 : w.cell? ⟨x.p, 1, none⟩ = some (ifV 2 x.l) := h.p.cell 1
  unfold ifV at c1
  have H := Lib.hid h
  have HC := Lib.hid (fun (k : KIs w a g 2 x s S) => leave_ticket k i p hp)
  have H2 := Lib.hid (HC.out h.ki)
  clear h hp HC
  go_enter Tryz.func90, Tryz.ntmps90
  go_wp2_with fail
  refine HM.out.mono ?_
  rintro en w1 ⟨rfl, rfl⟩
  go_wp2_with fail
  refine H2.out.mono ?_
  rintro en w2 ⟨rfl, k2, t2⟩
  have H3 := Lib.hid (And.intro k2 t2)
  clear k2 t2
  go_wp2
  go_ret
  exact ⟨rfl, H.out.to (turns_qag H3.out.2) H3.out.1, H3.out.2⟩
set_option maxHeartbeats 1000000 in
theorem fl_leave_3 (h : FlIs w a g 3 x s S) (i : Nat) (p : Sp) (hp : S[i]? = some p) :
    Calls Tryz.prog 90 #[.pointer (some ⟨x.p, 0, none⟩), .int .i64 i] w fun e w' => e = .returned (.bool (decide (p.pc = 10))) ∧ FlIs w' a g 3 x s (S.set i (leaveK p)) ∧ Turns [x.q] w w' := by
  have HM := Lib.hid (made_fl h (by decide))
  have c1 : w.cell? ⟨x.p, 1, none⟩ = some (ifV 3 x.l) := h.p.cell 1
  unfold ifV at c1
  have H := Lib.hid h
  have HC := Lib.hid (fun (k : KIs w a g 3 x s S) => leave_parted k i p hp)
  have H2 := Lib.hid (HC.out h.ki)
  clear h hp HC
  go_enter Tryz.func90, Tryz.ntmps90
  go_wp2_with fail
  refine HM.out.mono ?_
  rintro en w1 ⟨rfl, rfl⟩
  go_wp2_with fail
  refine H2.out.mono ?_
  rintro en w2 ⟨rfl, k2, t2⟩
  have H3 := Lib.hid (And.intro k2 t2)
  clear k2 t2
  go_wp2
  go_ret
  exact ⟨rfl, H.out.to (turns_qag H3.out.2) H3.out.1, H3.out.2⟩
set_option maxHeartbeats 1000000 in
theorem fl_leave_4 (h : FlIs w a g 4 x s S) (i : Nat) (p : Sp) (hp : S[i]? = some p) :
    Calls Tryz.prog 90 #[.pointer (some ⟨x.p, 0, none⟩), .int .i64 i] w fun e w' => e = .returned (.bool (decide (p.pc = 10))) ∧ FlIs w' a g 4 x s (S.set i (leaveK p)) ∧ Turns [x.q] w w' := by
  have HM := Lib.hid (made_fl h (by decide))
  have c1 : w.cell? ⟨x.p, 1, none⟩ = some (ifV 4 x.l) := h.p.cell 1
  unfold ifV at c1
  have H := Lib.hid h
  have HC := Lib.hid (fun (k : KIs w a g 4 x s S) => leave_mcs k i p hp)
  have H2 := Lib.hid (HC.out h.ki)
  clear h hp HC
  go_enter Tryz.func90, Tryz.ntmps90
  go_wp2_with fail
  refine HM.out.mono ?_
  rintro en w1 ⟨rfl, rfl⟩
  go_wp2_with fail
  refine H2.out.mono ?_
  rintro en w2 ⟨rfl, k2, t2⟩
  have H3 := Lib.hid (And.intro k2 t2)
  clear k2 t2
  go_wp2
  go_ret
  exact ⟨rfl, H.out.to (turns_qag H3.out.2) H3.out.1, H3.out.2⟩
set_option maxHeartbeats 1000000 in
theorem fl_leave_5 (h : FlIs w a g 5 x s S) (i : Nat) (p : Sp) (hp : S[i]? = some p) :
    Calls Tryz.prog 90 #[.pointer (some ⟨x.p, 0, none⟩), .int .i64 i] w fun e w' => e = .returned (.bool (decide (p.pc = 10))) ∧ FlIs w' a g 5 x s (S.set i (leaveK p)) ∧ Turns [x.q] w w' := by
  have HM := Lib.hid (made_fl h (by decide))
  have c1 : w.cell? ⟨x.p, 1, none⟩ = some (ifV 5 x.l) := h.p.cell 1
  unfold ifV at c1
  have H := Lib.hid h
  have HC := Lib.hid (fun (k : KIs w a g 5 x s S) => leave_clh k i p hp)
  have H2 := Lib.hid (HC.out h.ki)
  clear h hp HC
  go_enter Tryz.func90, Tryz.ntmps90
  go_wp2_with fail
  refine HM.out.mono ?_
  rintro en w1 ⟨rfl, rfl⟩
  go_wp2_with fail
  refine H2.out.mono ?_
  rintro en w2 ⟨rfl, k2, t2⟩
  have H3 := Lib.hid (And.intro k2 t2)
  clear k2 t2
  go_wp2
  go_ret
  exact ⟨rfl, H.out.to (turns_qag H3.out.2) H3.out.1, H3.out.2⟩
theorem fl_leave (h : FlIs w a g k x s S) (hk : KOk k) (i : Nat) (p : Sp) (hp : S[i]? = some p) :
    Calls Tryz.prog 90 #[.pointer (some ⟨x.p, 0, none⟩), .int .i64 i] w fun e w' => e = .returned (.bool (decide (p.pc = 10))) ∧ FlIs w' a g k x s (S.set i (leaveK p)) ∧ Turns [x.q] w w' := by
  rcases hk with rfl | rfl | rfl | rfl | rfl
  · exact fl_leave_1 h i p hp
  · exact fl_leave_2 h i p hp
  · exact fl_leave_3 h i p hp
  · exact fl_leave_4 h i p hp
  · exact fl_leave_5 h i p hp
set_option maxHeartbeats 1000000 in
theorem fl_step_1 (h : FlIs w a g 1 x s S) (i : Nat) (p : Sp) (hp : S[i]? = some p) {B : Int} (C : PreK 1 x s S B) (hc : pcK 1 p) :
    Calls Tryz.prog 87 #[.pointer (some ⟨x.p, 0, none⟩), .int .i64 i] w (FlStOk w a g 1 x s S i p) := by
  have HM := Lib.hid (made_fl h (by decide))
  have c1 : w.cell? ⟨x.p, 1, none⟩ = some (ifV 1 x.l) := h.p.cell 1
  unfold ifV at c1
  have H := Lib.hid h
  have HC := Lib.hid (fun (k : KIs w a g 1 x s S) => step_tasK k C i p hp hc)
  have H2 := Lib.hid (HC.out h.ki)
  clear h hp HC C hc
  go_enter Tryz.func87, Tryz.ntmps87
  go_wp2_with fail
  refine HM.out.mono ?_
  rintro en w1 ⟨rfl, rfl⟩
  go_wp2_with fail
  refine H2.out.mono ?_
  rintro en w2 ⟨rfl, k2, t2⟩
  have H3 := Lib.hid (And.intro k2 t2)
  clear k2 t2
  go_wp2
  go_ret
  exact ⟨rfl, H.out.to H3.out.2 H3.out.1, H3.out.2⟩
set_option maxHeartbeats 1000000 in
theorem fl_step_2 (h : FlIs w a g 2 x s S) (i : Nat) (p : Sp) (hp : S[i]? = some p) {B : Int} (C : PreK 2 x s S B) (hc : pcK 2 p) :
    Calls Tryz.prog 87 #[.pointer (some ⟨x.p, 0, none⟩), .int .i64 i] w (FlStOk w a g 2 x s S i p) := by
  have HM := Lib.hid (made_fl h (by decide))
  have c1 : w.cell? ⟨x.p, 1, none⟩ = some (ifV 2 x.l) := h.p.cell 1
  unfold ifV at c1
  have H := Lib.hid h
  have HC := Lib.hid (fun (k : KIs w a g 2 x s S) => step_tick k C i p hp hc)
  have H2 := Lib.hid (HC.out h.ki)
  clear h hp HC C hc
  go_enter Tryz.func87, Tryz.ntmps87
  go_wp2_with fail
  refine HM.out.mono ?_
  rintro en w1 ⟨rfl, rfl⟩
  go_wp2_with fail
  refine H2.out.mono ?_
  rintro en w2 ⟨rfl, k2, t2⟩
  have H3 := Lib.hid (And.intro k2 t2)
  clear k2 t2
  go_wp2
  go_ret
  exact ⟨rfl, H.out.to H3.out.2 H3.out.1, H3.out.2⟩
set_option maxHeartbeats 1000000 in
theorem fl_step_3 (h : FlIs w a g 3 x s S) (i : Nat) (p : Sp) (hp : S[i]? = some p) {B : Int} (C : PreK 3 x s S B) (hc : pcK 3 p) :
    Calls Tryz.prog 87 #[.pointer (some ⟨x.p, 0, none⟩), .int .i64 i] w (FlStOk w a g 3 x s S i p) := by
  have HM := Lib.hid (made_fl h (by decide))
  have c1 : w.cell? ⟨x.p, 1, none⟩ = some (ifV 3 x.l) := h.p.cell 1
  unfold ifV at c1
  have H := Lib.hid h
  have HC := Lib.hid (fun (k : KIs w a g 3 x s S) => step_part k C i p hp hc)
  have H2 := Lib.hid (HC.out h.ki)
  clear h hp HC C hc
  go_enter Tryz.func87, Tryz.ntmps87
  go_wp2_with fail
  refine HM.out.mono ?_
  rintro en w1 ⟨rfl, rfl⟩
  go_wp2_with fail
  refine H2.out.mono ?_
  rintro en w2 ⟨rfl, k2, t2⟩
  have H3 := Lib.hid (And.intro k2 t2)
  clear k2 t2
  go_wp2
  go_ret
  exact ⟨rfl, H.out.to H3.out.2 H3.out.1, H3.out.2⟩
set_option maxHeartbeats 1000000 in
theorem fl_step_4 (h : FlIs w a g 4 x s S) (i : Nat) (p : Sp) (hp : S[i]? = some p) {B : Int} (C : PreK 4 x s S B) (hc : pcK 4 p) :
    Calls Tryz.prog 87 #[.pointer (some ⟨x.p, 0, none⟩), .int .i64 i] w (FlStOk w a g 4 x s S i p) := by
  have HM := Lib.hid (made_fl h (by decide))
  have c1 : w.cell? ⟨x.p, 1, none⟩ = some (ifV 4 x.l) := h.p.cell 1
  unfold ifV at c1
  have H := Lib.hid h
  have HC := Lib.hid (fun (k : KIs w a g 4 x s S) => step_mcs k C i p hp hc)
  have H2 := Lib.hid (HC.out h.ki)
  clear h hp HC C hc
  go_enter Tryz.func87, Tryz.ntmps87
  go_wp2_with fail
  refine HM.out.mono ?_
  rintro en w1 ⟨rfl, rfl⟩
  go_wp2_with fail
  refine H2.out.mono ?_
  rintro en w2 ⟨rfl, k2, t2⟩
  have H3 := Lib.hid (And.intro k2 t2)
  clear k2 t2
  go_wp2
  go_ret
  exact ⟨rfl, H.out.to H3.out.2 H3.out.1, H3.out.2⟩
set_option maxHeartbeats 1000000 in
theorem fl_step_5 (h : FlIs w a g 5 x s S) (i : Nat) (p : Sp) (hp : S[i]? = some p) {B : Int} (C : PreK 5 x s S B) (hc : pcK 5 p) :
    Calls Tryz.prog 87 #[.pointer (some ⟨x.p, 0, none⟩), .int .i64 i] w (FlStOk w a g 5 x s S i p) := by
  have HM := Lib.hid (made_fl h (by decide))
  have c1 : w.cell? ⟨x.p, 1, none⟩ = some (ifV 5 x.l) := h.p.cell 1
  unfold ifV at c1
  have H := Lib.hid h
  have HC := Lib.hid (fun (k : KIs w a g 5 x s S) => step_clh k C i p hp hc)
  have H2 := Lib.hid (HC.out h.ki)
  clear h hp HC C hc
  go_enter Tryz.func87, Tryz.ntmps87
  go_wp2_with fail
  refine HM.out.mono ?_
  rintro en w1 ⟨rfl, rfl⟩
  go_wp2_with fail
  refine H2.out.mono ?_
  rintro en w2 ⟨rfl, k2, t2⟩
  have H3 := Lib.hid (And.intro k2 t2)
  clear k2 t2
  go_wp2
  go_ret
  exact ⟨rfl, H.out.to H3.out.2 H3.out.1, H3.out.2⟩
theorem fl_step (h : FlIs w a g k x s S) (hk : KOk k) (i : Nat) (p : Sp) (hp : S[i]? = some p) {B : Int} (C : PreK k x s S B) (hc : pcK k p) :
    Calls Tryz.prog 87 #[.pointer (some ⟨x.p, 0, none⟩), .int .i64 i] w (FlStOk w a g k x s S i p) := by
  rcases hk with rfl | rfl | rfl | rfl | rfl
  · exact fl_step_1 h i p hp C hc
  · exact fl_step_2 h i p hp C hc
  · exact fl_step_3 h i p hp C hc
  · exact fl_step_4 h i p hp C hc
  · exact fl_step_5 h i p hp C hc
set_option maxHeartbeats 1000000 in
theorem fl_alone_1 (h : FlIs w a g 1 x s S) (i : Nat) (p : Sp) (hp : S[i]? = some p) {B : Int} (C : PreK 1 x s S B) (hc : p.pc = 10) :
    Calls Tryz.prog 89 #[.pointer (some ⟨x.p, 0, none⟩), .int .i64 i] w (FlAlOk w a g 1 x s S i p) := by
  have HM := Lib.hid (made_fl h (by decide))
  have c1 : w.cell? ⟨x.p, 1, none⟩ = some (ifV 1 x.l) := h.p.cell 1
  unfold ifV at c1
  have H := Lib.hid h
  have HC := Lib.hid (fun (k : KIs w a g 1 x s S) => alone_lone k i p hp hc)
  have H2 := Lib.hid (HC.out h.ki)
  clear h hp HC C hc
  go_enter Tryz.func89, Tryz.ntmps89
  go_wp2_with fail
  refine HM.out.mono ?_
  rintro en w1 ⟨rfl, rfl⟩
  go_wp2_with fail
  refine H2.out.mono ?_
  rintro en w2 ⟨rfl, k2, t2⟩
  have H3 := Lib.hid (And.intro k2 t2)
  clear k2 t2
  go_wp2
  go_ret
  exact ⟨rfl, H.out.to H3.out.2 H3.out.1, H3.out.2⟩
set_option maxHeartbeats 1000000 in
theorem fl_alone_2 (h : FlIs w a g 2 x s S) (i : Nat) (p : Sp) (hp : S[i]? = some p) {B : Int} (C : PreK 2 x s S B) (hc : p.pc = 10) :
    Calls Tryz.prog 89 #[.pointer (some ⟨x.p, 0, none⟩), .int .i64 i] w (FlAlOk w a g 2 x s S i p) := by
  have HM := Lib.hid (made_fl h (by decide))
  have c1 : w.cell? ⟨x.p, 1, none⟩ = some (ifV 2 x.l) := h.p.cell 1
  unfold ifV at c1
  have H := Lib.hid h
  have HC := Lib.hid (fun (k : KIs w a g 2 x s S) => alone_tick k i p hp hc C.ops (by have := (C.sp hp).a0; omega) (by have := (C.sp hp).a1; have := C.B1; omega))
  have H2 := Lib.hid (HC.out h.ki)
  clear h hp HC C hc
  go_enter Tryz.func89, Tryz.ntmps89
  go_wp2_with fail
  refine HM.out.mono ?_
  rintro en w1 ⟨rfl, rfl⟩
  go_wp2_with fail
  refine H2.out.mono ?_
  rintro en w2 ⟨rfl, k2, t2⟩
  have H3 := Lib.hid (And.intro k2 t2)
  clear k2 t2
  go_wp2
  go_ret
  exact ⟨rfl, H.out.to H3.out.2 H3.out.1, H3.out.2⟩
set_option maxHeartbeats 1000000 in
theorem fl_alone_3 (h : FlIs w a g 3 x s S) (i : Nat) (p : Sp) (hp : S[i]? = some p) {B : Int} (C : PreK 3 x s S B) (hc : p.pc = 10) :
    Calls Tryz.prog 89 #[.pointer (some ⟨x.p, 0, none⟩), .int .i64 i] w (FlAlOk w a g 3 x s S i p) := by
  have HM := Lib.hid (made_fl h (by decide))
  have c1 : w.cell? ⟨x.p, 1, none⟩ = some (ifV 3 x.l) := h.p.cell 1
  unfold ifV at c1
  have H := Lib.hid h
  have HC := Lib.hid (fun (k : KIs w a g 3 x s S) => alone_parted k i p hp hc C.ops ⟨(C.sp hp).a0, by have := (C.sp hp).a1; have := C.B1; omega⟩)
  have H2 := Lib.hid (HC.out h.ki)
  clear h hp HC C hc
  go_enter Tryz.func89, Tryz.ntmps89
  go_wp2_with fail
  refine HM.out.mono ?_
  rintro en w1 ⟨rfl, rfl⟩
  go_wp2_with fail
  refine H2.out.mono ?_
  rintro en w2 ⟨rfl, k2, t2⟩
  have H3 := Lib.hid (And.intro k2 t2)
  clear k2 t2
  go_wp2
  go_ret
  exact ⟨rfl, H.out.to H3.out.2 H3.out.1, H3.out.2⟩
set_option maxHeartbeats 1000000 in
theorem fl_alone_4 (h : FlIs w a g 4 x s S) (i : Nat) (p : Sp) (hp : S[i]? = some p) {B : Int} (C : PreK 4 x s S B) (hc : p.pc = 10) :
    Calls Tryz.prog 89 #[.pointer (some ⟨x.p, 0, none⟩), .int .i64 i] w (FlAlOk w a g 4 x s S i p) := by
  have HM := Lib.hid (made_fl h (by decide))
  have c1 : w.cell? ⟨x.p, 1, none⟩ = some (ifV 4 x.l) := h.p.cell 1
  unfold ifV at c1
  have H := Lib.hid h
  have HC := Lib.hid (fun (k : KIs w a g 4 x s S) => alone_mcs k i p hp hc C.ops)
  have H2 := Lib.hid (HC.out h.ki)
  clear h hp HC C hc
  go_enter Tryz.func89, Tryz.ntmps89
  go_wp2_with fail
  refine HM.out.mono ?_
  rintro en w1 ⟨rfl, rfl⟩
  go_wp2_with fail
  refine H2.out.mono ?_
  rintro en w2 ⟨rfl, k2, t2⟩
  have H3 := Lib.hid (And.intro k2 t2)
  clear k2 t2
  go_wp2
  go_ret
  exact ⟨rfl, H.out.to H3.out.2 H3.out.1, H3.out.2⟩
set_option maxHeartbeats 1000000 in
theorem fl_alone_5 (h : FlIs w a g 5 x s S) (i : Nat) (p : Sp) (hp : S[i]? = some p) {B : Int} (C : PreK 5 x s S B) (hc : p.pc = 10) :
    Calls Tryz.prog 89 #[.pointer (some ⟨x.p, 0, none⟩), .int .i64 i] w (FlAlOk w a g 5 x s S i p) := by
  have HM := Lib.hid (made_fl h (by decide))
  have c1 : w.cell? ⟨x.p, 1, none⟩ = some (ifV 5 x.l) := h.p.cell 1
  unfold ifV at c1
  have H := Lib.hid h
  have HC := Lib.hid (fun (k : KIs w a g 5 x s S) => alone_clh k i p hp hc C.ops)
  have H2 := Lib.hid (HC.out h.ki)
  clear h hp HC C hc
  go_enter Tryz.func89, Tryz.ntmps89
  go_wp2_with fail
  refine HM.out.mono ?_
  rintro en w1 ⟨rfl, rfl⟩
  go_wp2_with fail
  refine H2.out.mono ?_
  rintro en w2 ⟨rfl, k2, t2⟩
  have H3 := Lib.hid (And.intro k2 t2)
  clear k2 t2
  go_wp2
  go_ret
  exact ⟨rfl, H.out.to H3.out.2 H3.out.1, H3.out.2⟩
theorem fl_alone (h : FlIs w a g k x s S) (hk : KOk k) (i : Nat) (p : Sp) (hp : S[i]? = some p) {B : Int} (C : PreK k x s S B) (hc : p.pc = 10) :
    Calls Tryz.prog 89 #[.pointer (some ⟨x.p, 0, none⟩), .int .i64 i] w (FlAlOk w a g k x s S i p) := by
  rcases hk with rfl | rfl | rfl | rfl | rfl
  · exact fl_alone_1 h i p hp C hc
  · exact fl_alone_2 h i p hp C hc
  · exact fl_alone_3 h i p hp C hc
  · exact fl_alone_4 h i p hp C hc
  · exact fl_alone_5 h i p hp C hc
end
end Go.Proofs.YtmlcfmickonfbaaGreat
end
section
set_option linter.unusedVariables false
set_option linter.unusedSimpArgs false
/- Layer 24 (cohort), plain: where slots and threads may be, and what an act leaves alone. No program in sight. -/
namespace Go.Proofs.YtmlcfmickonfbaaGreat
open Go

/-- where the slot of a thread's local lock is, as to where the thread is -/
def linkP (p q : Sp) : Prop :=
  (p.pc = 0 ∧ q.pc = 0) ∨ (p.pc = 1 ∧ 0 < q.pc ∧ q.pc < 10) ∨
    ((p.pc = 2 ∨ p.pc = 3 ∨ p.pc = 4 ∨ p.pc = 10 ∨ p.pc = 11 ∨ p.pc = 12 ∨ p.pc = 13 ∨ p.pc = 14 ∨ p.pc = 15) ∧ q.pc = 10) ∨ (p.pc = 16 ∧ 10 < q.pc)
theorem stepK_pc {k : Nat} {t m : Int} {s : Ar} {i : Int} {p : Sp} (hk : 1 ≤ k ∧ k ≤ 5) (hc : pcK k p) :
    pcK k (stepK k t m s i p).2 ∧ (0 < p.pc → p.pc < 10 → 0 < (stepK k t m s i p).2.pc ∧ (stepK k t m s i p).2.pc ≤ 10) ∧ (10 < p.pc → (stepK k t m s i p).2.pc = 0 ∨ 10 < (stepK k t m s i p).2.pc) := by
  unfold stepK
  split
  · rename_i h1
    subst h1
    obtain ⟨pc, u, b, z⟩ := p
    simp only [pcK, mcsPc, reduceIte, show ¬ (1 = 4) by decide, show ¬ (1 = 5) by decide] at hc ⊢
    unfold tasK
    rcases hc with rfl | rfl | rfl | rfl | rfl <;> simp <;> split <;> simp <;> omega
  split
  · rename_i h1
    subst h1
    obtain ⟨pc, u, b, z⟩ := p
    simp only [pcK, mcsPc, reduceIte, show ¬ (2 = 4) by decide, show ¬ (2 = 5) by decide] at hc ⊢
    unfold tickK
    rcases hc with rfl | rfl | rfl | rfl | rfl <;> simp <;> split <;> simp <;> omega
  split
  · rename_i h1
    subst h1
    obtain ⟨pc, u, b, z⟩ := p
    simp only [pcK, mcsPc, reduceIte, show ¬ (3 = 4) by decide, show ¬ (3 = 5) by decide] at hc ⊢
    unfold partK
    rcases hc with rfl | rfl | rfl | rfl | rfl <;> simp <;> split <;> simp <;> omega
  split
  · rename_i h1
    subst h1
    obtain ⟨pc, u, b, z⟩ := p
    simp only [pcK, mcsPc, reduceIte] at hc ⊢
    unfold mcsK
    split
    · unfold mcsIn
      (repeat' split) <;> simp_all <;> omega
    split
    · unfold mcsOut
      (repeat' split) <;> simp_all <;> omega
    · simp only; omega
  · obtain rfl : k = 5 := by omega
    obtain ⟨pc, u, b, z⟩ := p
    simp only [pcK, mcsPc, reduceIte, show ¬ (5 = 4) by decide] at hc ⊢
    unfold clhK
    rcases hc with rfl | rfl | rfl | rfl | rfl | rfl <;> simp <;> split <;> simp <;> omega
theorem came_in {p p' : Sp} (h0 : 0 < p.pc) (h1 : p.pc < 10) (h2 : 0 < p'.pc) : cameK p p' = decide (p'.pc = 10) := by
  unfold cameK
  have : ¬ p.pc = 0 := by omega
  have : ¬ p.pc = 10 := by omega
  have : ¬ p'.pc = 0 := by omega
  simp [*]
theorem came_out {p p' : Sp} (h0 : 10 < p.pc) (h2 : p'.pc = 0 ∨ 10 < p'.pc) : cameK p p' = decide (p'.pc = 0) := by
  unfold cameK
  have : ¬ p.pc = 0 := by omega
  have : ¬ p.pc = 10 := by omega
  have : ¬ p'.pc = 10 := by omega
  simp [*]
theorem askK_pc {k : Nat} {p : Sp} (h : p.pc = 0) : (askK k p).pc = 1 := by
  unfold askK
  rw [if_pos h]
  split <;> rfl
theorem leaveK_pc {p : Sp} (h : p.pc = 10) : (leaveK p).pc = 11 := by
  unfold leaveK
  rw [if_pos h]
theorem askK_pcK {k : Nat} {p : Sp} (hc : pcK k p) : pcK k (askK k p) := by
  by_cases h : p.pc = 0
  · have e := askK_pc (k := k) h
    unfold pcK mcsPc
    rw [e]
    split
    · omega
    split <;> omega
  · unfold askK; rw [if_neg h]; exact hc
theorem leaveK_pcK {k : Nat} {p : Sp} (hc : pcK k p) : pcK k (leaveK p) := by
  by_cases h : p.pc = 10
  · have e := leaveK_pc h
    unfold pcK mcsPc
    rw [e]
    split
    · omega
    split <;> omega
  · unfold leaveK; rw [if_neg h]; exact hc
-- a step at each place
section
variable (c : CoC) (st : Co) (i : Nat) (u b z : Int)
theorem mv1 : coMv c st i ⟨1, u, b, z⟩ = ((stL c st i).1, st.G, setL c st i (stL c st i).2, if camL c st i then ⟨2, u, b, z⟩ else ⟨1, u, b, z⟩) := rfl
theorem mv2 : coMv c st i ⟨2, u, b, z⟩ = if 0 < ldW st.s.W (c.cw (c.node i)) then (loadA st.s (c.cw (c.node i)), st.G, st.L, ⟨10, ldW st.s.W (c.cw (c.node i)), b, z⟩)
    else (loadA st.s (c.cw (c.node i)), st.G.set (c.node i) (askK c.kg (sv st.G (c.node i))), st.L, ⟨3, ldW st.s.W (c.cw (c.node i)), b, z⟩) := rfl
theorem mv3 : coMv c st i ⟨3, u, b, z⟩ = ((stG c st i).1, st.G.set (c.node i) (stG c st i).2, st.L, if camG c st i then ⟨4, u, b, z⟩ else ⟨3, u, b, z⟩) := rfl
theorem mv4 : coMv c st i ⟨4, u, b, z⟩ = (storeA st.s (c.cw (c.node i)) 1, st.G, st.L, ⟨10, 1, b, z⟩) := rfl
theorem mv11 : coMv c st i ⟨11, u, b, z⟩ = (loadA st.s (c.cw (c.node i)), st.G, st.L, ⟨if c.bud < ldW st.s.W (c.cw (c.node i)) then 14 else 12, ldW st.s.W (c.cw (c.node i)), b, z⟩) := rfl
theorem mv12 : coMv c st i ⟨12, u, b, z⟩ = ((aloneK c.kl (c.tl (c.node i)) st.s (c.slot i) (lsp st.L (c.node i) (c.slot i))).1, st.G, st.L,
    ⟨if passB u c.bud (aloneK c.kl (c.tl (c.node i)) st.s (c.slot i) (lsp st.L (c.node i) (c.slot i))).2 then 13 else 14, u, b, z⟩) := rfl
theorem mv13 : coMv c st i ⟨13, u, b, z⟩ = (storeA st.s (c.cw (c.node i)) (u + 1), st.G, setL c st i (leaveK (lsp st.L (c.node i) (c.slot i))), ⟨16, u, b, z⟩) := rfl
theorem mv14 : coMv c st i ⟨14, u, b, z⟩ = (storeA st.s (c.cw (c.node i)) 0, st.G.set (c.node i) (leaveK (sv st.G (c.node i))), st.L, ⟨15, u, b, z⟩) := rfl
theorem mv15 : coMv c st i ⟨15, u, b, z⟩ = if camG c st i then ((stG c st i).1, st.G.set (c.node i) (stG c st i).2, setL c st i (leaveK (lsp st.L (c.node i) (c.slot i))), ⟨16, u, b, z⟩)
    else ((stG c st i).1, st.G.set (c.node i) (stG c st i).2, st.L, ⟨15, u, b, z⟩) := rfl
theorem mv16 : coMv c st i ⟨16, u, b, z⟩ = ((stL c st i).1, st.G, setL c st i (stL c st i).2, if camL c st i then ⟨0, u, b, z⟩ else ⟨16, u, b, z⟩) := rfl
end
/-- where all is, of n threads -/
structure CoV (c : CoC) (n : Nat) (st : Co) : Prop where
  g : ∀ p ∈ st.G, pcK c.kg p
  l : ∀ x ∈ st.L, ∀ p ∈ x, pcK c.kl p
  k : ∀ i, i < n → linkP (sv st.T i) (lsp st.L (c.node i) (c.slot i))
  lT : n ≤ st.T.length
  lG : ∀ i, i < n → c.node i < st.G.length
  lL : ∀ i, i < n → c.node i < st.L.length ∧ c.slot i < (st.L.getD (c.node i) []).length
def Inj (c : CoC) (n : Nat) : Prop := ∀ i j, i < n → j < n → c.node i = c.node j → c.slot i = c.slot j → i = j
theorem lsp_lset {L : List (List Sp)} {n i : Nat} {p : Sp} (hn : n < L.length) (hi : i < (L.getD n []).length) (m j : Nat) : lsp (lset L n i p) m j = if n = m ∧ i = j then p else lsp L m j := by
  unfold lsp lset
  rw [List.getD_eq_getElem?_getD (l := L.set _ _), List.getElem?_set]
  by_cases h1 : n = m
  · subst h1
    rw [if_pos rfl, if_pos hn]
    show (List.set _ _ _).getD _ _ = _
    rw [List.getD_eq_getElem?_getD, List.getElem?_set]
    by_cases h2 : i = j
    · subst h2
      rw [if_pos rfl, if_pos hi, if_pos ⟨rfl, rfl⟩]; rfl
    · rw [if_neg h2, if_neg (fun h => h2 h.2), List.getD_eq_getElem?_getD (l := L.getD n [])]
  · rw [if_neg h1, if_neg (fun h => h1 h.1), List.getD_eq_getElem?_getD (l := L)]
theorem lset_len (L : List (List Sp)) (n i : Nat) (p : Sp) (m : Nat) : ((lset L n i p).getD m []).length = (L.getD m []).length ∧ (lset L n i p).length = L.length := by
  refine ⟨?_, by unfold lset; simp⟩
  unfold lset
  rw [List.getD_eq_getElem?_getD, List.getElem?_set]
  by_cases h1 : n = m
  · subst h1
    rw [if_pos rfl]
    split
    · simp
    · rename_i h
      rw [List.getD_eq_getElem?_getD, List.getElem?_eq_none (by omega)]
  · rw [if_neg h1, List.getD_eq_getElem?_getD]
section
variable {c : CoC} {n : Nat} {st : Co}
theorem CoV.lpc (h : CoV c n st) {i : Nat} (hi : i < n) : pcK c.kl (lsp st.L (c.node i) (c.slot i)) := by
  obtain ⟨h1, h2⟩ := h.lL i hi
  have e1 : st.L.getD (c.node i) [] ∈ st.L := by
    rw [List.getD_eq_getElem?_getD, List.getElem?_eq_getElem h1]; exact List.getElem_mem h1
  have e2 : lsp st.L (c.node i) (c.slot i) ∈ st.L.getD (c.node i) [] := by
    unfold lsp
    rw [List.getD_eq_getElem?_getD (l := st.L.getD _ _), List.getElem?_eq_getElem h2]; exact List.getElem_mem h2
  exact h.l _ e1 _ e2
theorem CoV.gpc (h : CoV c n st) {i : Nat} (hi : i < n) : pcK c.kg (sv st.G (c.node i)) := by
  have h1 := h.lG i hi
  refine h.g _ ?_
  unfold sv
  rw [List.getD_eq_getElem?_getD, List.getElem?_eq_getElem h1]; exact List.getElem_mem h1
theorem CoV.thr (h : CoV c n st) (hI : Inj c n) {i : Nat} (hi : i < n) {t q : Sp} (hl : linkP t q) (j : Nat) (hj : j < n) (L' : List (List Sp)) (hL : lsp L' (c.node i) (c.slot i) = q)
    (ho : ∀ m s, ¬ (c.node i = m ∧ c.slot i = s) → lsp L' m s = lsp st.L m s) : linkP (sv (st.T.set i t) j) (lsp L' (c.node j) (c.slot j)) := by
  rw [sv_set]
  by_cases e : i = j
  · subst e
    rw [if_pos ⟨rfl, by have := h.lT; omega⟩, hL]; exact hl
  · rw [if_neg (fun k => e k.1), ho _ _ (fun k => e (hI i j hi hj k.1 k.2))]; exact h.k j hj
/-- an act that sets a local slot -/
theorem CoV.upd (h : CoV c n st) (hI : Inj c n) {i : Nat} (hi : i < n) (s' : Ar) {G' : List Sp} (hG : ∀ p ∈ G', pcK c.kg p) (hGl : G'.length = st.G.length) {q t : Sp} (hq : pcK c.kl q) (hl : linkP t q) : CoV c n ⟨s', G', setL c st i q, st.T.set i t⟩ := by
  obtain ⟨h1, h2⟩ := h.lL i hi
  refine ⟨hG, ?_, fun j hj => h.thr hI hi hl j hj _ ?_ ?_, by simpa using h.lT, fun j hj => by rw [hGl]; exact h.lG j hj, fun j hj => ?_⟩
  · exact all_set h.l _ (all_set (h.l _ (by rw [List.getD_eq_getElem?_getD, List.getElem?_eq_getElem h1]; exact List.getElem_mem h1)) _ hq)
  · unfold setL; rw [lsp_lset h1 h2, if_pos ⟨rfl, rfl⟩]
  · intro m s hn
    unfold setL; rw [lsp_lset h1 h2, if_neg hn]
  · unfold setL; rw [(lset_len _ _ _ _ _).1, (lset_len _ _ _ _ 0).2]; exact h.lL j hj
/-- an act that sets none -/
theorem CoV.upd0 (h : CoV c n st) (hI : Inj c n) {i : Nat} (hi : i < n) (s' : Ar) {G' : List Sp} (hG : ∀ p ∈ G', pcK c.kg p) (hGl : G'.length = st.G.length) {t : Sp} (hl : linkP t (lsp st.L (c.node i) (c.slot i))) : CoV c n ⟨s', G', st.L, st.T.set i t⟩ :=
  ⟨hG, h.l, fun j hj => h.thr hI hi hl j hj _ rfl (fun _ _ _ => rfl), by simpa using h.lT, fun j hj => by rw [hGl]; exact h.lG j hj, h.lL⟩
/-- a step keeps where all may be -/
theorem coStep_v (h : CoV c n st) (hI : Inj c n) (hk : (1 ≤ c.kg ∧ c.kg ≤ 5) ∧ 1 ≤ c.kl ∧ c.kl ≤ 5) {i : Nat} (hi : i < n) : CoV c n (coStep c st i) := by
  have hlk := h.k i hi
  have hq := h.lpc hi
  have hg := h.gpc hi
  have sL := stepK_pc (t := c.tl (c.node i)) (m := c.m) (s := st.s) (i := (c.slot i : Int)) hk.2 hq
  have sG := stepK_pc (t := c.tg) (m := c.m) (s := st.s) (i := (c.node i : Int)) hk.1 hg
  have hGl : ∀ q : Sp, (st.G.set (c.node i) q).length = st.G.length := fun q => by simp
  have hGs : ∀ q : Sp, pcK c.kg q → ∀ p ∈ st.G.set (c.node i) q, pcK c.kg p := fun q hq => all_set h.g _ hq
  unfold coStep
  split
  · exact h
  rename_i hne
  obtain ⟨p, hp⟩ : ∃ p, p = sv st.T i := ⟨_, rfl⟩
  rw [← hp] at hlk hne ⊢
  obtain ⟨q, hqq⟩ : ∃ q, q = lsp st.L (c.node i) (c.slot i) := ⟨_, rfl⟩
  have hc : p.pc = 1 ∨ p.pc = 2 ∨ p.pc = 3 ∨ p.pc = 4 ∨ p.pc = 11 ∨ p.pc = 12 ∨ p.pc = 13 ∨ p.pc = 14 ∨ p.pc = 15 ∨ p.pc = 16 := by unfold linkP at hlk; omega
  obtain ⟨pc, u, b, z⟩ := p
  simp only at hc
  have hL10 : pc ≠ 0 → pc ≠ 1 → pc ≠ 16 → (lsp st.L (c.node i) (c.slot i)).pc = 10 := fun a0 a1 a2 => by unfold linkP at hlk; simp only at hlk; omega
  have lk : ∀ t : Sp, (t.pc = 2 ∨ t.pc = 3 ∨ t.pc = 4 ∨ t.pc = 10 ∨ t.pc = 11 ∨ t.pc = 12 ∨ t.pc = 13 ∨ t.pc = 14 ∨ t.pc = 15) → ∀ q : Sp, q.pc = 10 → linkP t q := fun t ht q hq => .inr (.inr (.inl ⟨ht, hq⟩))
  have lk16 : ∀ t : Sp, t.pc = 16 → linkP t (leaveK (lsp st.L (c.node i) (c.slot i))) ∨ (lsp st.L (c.node i) (c.slot i)).pc ≠ 10 := fun t ht => by
    by_cases e : (lsp st.L (c.node i) (c.slot i)).pc = 10
    · left; exact .inr (.inr (.inr ⟨ht, by rw [leaveK_pc e]; decide⟩))
    · right; exact e
  have l16 : ∀ t : Sp, t.pc = 16 → (lsp st.L (c.node i) (c.slot i)).pc = 10 → linkP t (leaveK (lsp st.L (c.node i) (c.slot i))) := fun t ht e => (lk16 t ht).resolve_right (fun k => k e)
  rcases hc with rfl | rfl | rfl | rfl | rfl | rfl | rfl | rfl | rfl | rfl
  · have hb : 0 < (lsp st.L (c.node i) (c.slot i)).pc ∧ (lsp st.L (c.node i) (c.slot i)).pc < 10 := by unfold linkP at hlk; simp only at hlk; omega
    have s2 := sL.2.1 hb.1 hb.2
    have ec : camL c st i = decide ((stL c st i).2.pc = 10) := came_in hb.1 hb.2 s2.1
    rw [mv1]
    refine h.upd hI hi _ h.g rfl sL.1 ?_
    show linkP (if camL c st i then _ else _) _
    rw [ec]
    split
    · rename_i e; exact lk _ (.inl rfl) _ (by simpa using e)
    · rename_i e
      refine .inr (.inl ⟨rfl, s2.1, ?_⟩)
      have : ¬ (stL c st i).2.pc = 10 := by simpa using e
      have := s2.2
      show (stL c st i).2.pc < 10
      unfold stL at *
      omega
  · rw [mv2]
    split
    · exact h.upd0 hI hi _ h.g rfl (lk _ (by simp) _ (hL10 (by decide) (by decide) (by decide)))
    · exact h.upd0 hI hi _ (hGs _ (askK_pcK hg)) (hGl _) (lk _ (by simp) _ (hL10 (by decide) (by decide) (by decide)))
  · rw [mv3]
    refine h.upd0 hI hi _ (hGs _ sG.1) (hGl _) ?_
    show linkP (if camG c st i then _ else _) _
    split <;> exact lk _ (by simp) _ (hL10 (by decide) (by decide) (by decide))
  · rw [mv4]
    exact h.upd0 hI hi _ h.g rfl (lk _ (by simp) _ (hL10 (by decide) (by decide) (by decide)))
  · rw [mv11]
    refine h.upd0 hI hi _ h.g rfl (lk _ ?_ _ (hL10 (by decide) (by decide) (by decide)))
    simp only
    split <;> simp
  · rw [mv12]
    refine h.upd0 hI hi _ h.g rfl (lk _ ?_ _ (hL10 (by decide) (by decide) (by decide)))
    simp only
    split <;> simp
  · rw [mv13]
    exact h.upd hI hi _ h.g rfl (leaveK_pcK hq) (l16 _ rfl (hL10 (by decide) (by decide) (by decide)))
  · rw [mv14]
    exact h.upd0 hI hi _ (hGs _ (leaveK_pcK hg)) (hGl _) (lk _ (by simp) _ (hL10 (by decide) (by decide) (by decide)))
  · rw [mv15]
    split
    · exact h.upd hI hi _ (hGs _ sG.1) (hGl _) (leaveK_pcK hq) (l16 _ rfl (hL10 (by decide) (by decide) (by decide)))
    · exact h.upd0 hI hi _ (hGs _ sG.1) (hGl _) (lk _ (by simp) _ (hL10 (by decide) (by decide) (by decide)))
  · have hb : 10 < (lsp st.L (c.node i) (c.slot i)).pc := by unfold linkP at hlk; simp only at hlk; omega
    have s2 := sL.2.2 hb
    have ec : camL c st i = decide ((stL c st i).2.pc = 0) := came_out hb s2
    rw [mv16]
    refine h.upd hI hi _ h.g rfl sL.1 ?_
    show linkP (if camL c st i then _ else _) _
    rw [ec]
    split
    · rename_i e; exact .inl ⟨rfl, by simpa using e⟩
    · rename_i e
      refine .inr (.inr (.inr ⟨rfl, ?_⟩))
      have : ¬ (stL c st i).2.pc = 0 := by simpa using e
      show 10 < (stL c st i).2.pc
      unfold stL at *
      omega
theorem coAsk_v (h : CoV c n st) (hI : Inj c n) {i : Nat} (hi : i < n) : CoV c n (coAsk c st i) := by
  unfold coAsk
  split
  · rename_i e
    have hlk := h.k i hi
    have hq0 : (lsp st.L (c.node i) (c.slot i)).pc = 0 := by unfold linkP at hlk; omega
    exact h.upd hI hi _ h.g rfl (askK_pcK (h.lpc hi)) (.inr (.inl ⟨rfl, by rw [askK_pc hq0]; decide, by rw [askK_pc hq0]; decide⟩))
  · exact h
theorem coLeave_v (h : CoV c n st) (hI : Inj c n) {i : Nat} (hi : i < n) : CoV c n (coLeave st i) := by
  unfold coLeave
  split
  · rename_i e
    have hlk := h.k i hi
    exact h.upd0 hI hi _ h.g rfl (.inr (.inr (.inl ⟨by simp, by unfold linkP at hlk; omega⟩)))
  · exact h
end
end Go.Proofs.YtmlcfmickonfbaaGreat
end
section
set_option linter.unusedVariables false
set_option linter.unusedSimpArgs false
/- Layer 24 (cohort), plain: one op a step, and what an act leaves alone. No program in sight. -/
namespace Go.Proofs.YtmlcfmickonfbaaGreat
open Go

def NearA (s s' : Ar) : Prop := s'.ops ≤ s.ops + 1 ∧ s'.W.length = s.W.length
theorem NearA.refl (s : Ar) : NearA s s := ⟨by omega, rfl⟩
theorem nearLoad (s : Ar) (x : Int) : NearA s (loadA s x) := ⟨loadA_ops _ _, by rw [loadA_W]⟩
theorem nearStore (s : Ar) (x v : Int) : NearA s (storeA s x v) := ⟨storeA_ops _ _ _, by rw [storeA_W, stW_len]⟩
theorem nearSwap (s : Ar) (x v : Int) : NearA s (swapA s x v) := ⟨swapA_ops _ _ _, by rw [swapA_W, stW_len]⟩
theorem nearAdd (s : Ar) (x v : Int) : NearA s (addA s x v) := ⟨addA_ops _ _ _, by rw [addA_W, stW_len]⟩
theorem nearCas (s : Ar) (x o v : Int) : NearA s (casA s x o v) := ⟨casA_ops _ _ _ _, by rw [casA_W]; split <;> simp [stW_len]⟩
theorem near_stepK (k : Nat) (t m : Int) (s : Ar) (i : Int) (p : Sp) : NearA s (stepK k t m s i p).1 := by
  unfold stepK tasK tickK partK mcsK mcsIn mcsOut clhK
  (repeat' split) <;> (try dsimp only) <;> first | with_reducible exact NearA.refl _ | with_reducible exact nearLoad _ _ | with_reducible exact nearStore _ _ _ | with_reducible exact nearSwap _ _ _ | with_reducible exact nearAdd _ _ _ | with_reducible exact nearCas _ _ _ _
theorem near_aloneK (k : Nat) (t : Int) (s : Ar) (i : Int) (p : Sp) : NearA s (aloneK k t s i p).1 := by
  unfold aloneK
  (repeat' split) <;> (try dsimp only) <;> first | with_reducible exact NearA.refl _ | with_reducible exact nearLoad _ _
section
variable {c : CoC} {B : Int} {st : Co}
theorem near_coMv (i : Nat) (p : Sp) : NearA st.s (coMv c st i p).1 := by
  unfold coMv coIn coOut stL stG
  (repeat' split) <;> (try dsimp only) <;> first | with_reducible exact NearA.refl _ | with_reducible exact nearLoad _ _ | with_reducible exact nearStore _ _ _ | with_reducible exact near_stepK _ _ _ _ _ _ | with_reducible exact near_aloneK _ _ _ _ _
theorem near_coStep (i : Nat) : NearA st.s (coStep c st i).s := by
  unfold coStep
  split
  · exact NearA.refl _
  · exact near_coMv _ _
theorem near_coAsk (i : Nat) : NearA st.s (coAsk c st i).s := by unfold coAsk; split <;> exact NearA.refl _
theorem near_coLeave (i : Nat) : NearA st.s (coLeave st i).s := by unfold coLeave; split <;> exact NearA.refl _
theorem coStep_bd (h : CoB c B st) (hB : 1 ≤ B) (hB2 : B ≤ 10000000000000) (i : Nat) (hs : (c.slot i : Int) + 1 ≤ B) (hn : (c.node i : Int) + 1 ≤ B) (hm : 1 ≤ c.m ∧ c.m ≤ B) : CoB c (B + 2) (coStep c st i) := by
  unfold coStep
  split
  · exact h.mono (by omega)
  · exact coMv_bd h hB hB2 i hs hn hm _ (h.tsp (by omega) i)
theorem coAsk_bd (h : CoB c B st) (hB : 1 ≤ B) (i : Nat) : CoB c (B + 2) (coAsk c st i) := by
  unfold coAsk
  split
  · have h2 := h.mono (C := B + 2) (by omega)
    exact ⟨h2.w, h2.g, h2.setL _ _ (bd_ask (h2.lsp (by omega) _ _) (by omega)), all_set h2.t i (h2.tsp (by omega) i)⟩
  · exact h.mono (by omega)
theorem coLeave_bd (h : CoB c B st) (hB : 1 ≤ B) (i : Nat) : CoB c (B + 2) (coLeave st i) := by
  unfold coLeave
  split
  · have h2 := h.mono (C := B + 2) (by omega)
    exact ⟨h2.w, h2.g, h2.l, all_set h2.t i (h2.tsp (by omega) i)⟩
  · exact h.mono (by omega)
end
end Go.Proofs.YtmlcfmickonfbaaGreat
end
