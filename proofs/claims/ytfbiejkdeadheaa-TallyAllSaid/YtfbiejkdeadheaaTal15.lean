/- Layers 10 and 11: the document's State, Reads, Writer, Readers and Do, as far as TallyAll asks. -/
import Derived.Test.YtfbiejkdeadheaaRows
import Derived.Test.YtfbiejkdeadheaaTal14
import Derived.RegionCalls
namespace Go.Proofs.Ytfbiejkdeadheaa
open Go.RowKit Go.Maps

theorem some9 (w : World) : Calls Try.prog 90 #[.int .i64 9] w fun e w' => e = .returned (.int .i64 9) ∧ w = w' := by
  go_enter Try.func90, Try.ntmps90
  go_wp2
  go_ret
  exact ⟨rfl, rfl⟩

set_option maxRecDepth 100000 in
set_option maxHeartbeats 1000000 in
theorem state_any (w : World) (ve : Value) (l : List Ev) (t : Int) (he : RdL w ve 4 encE l) (hlen : l.length ≤ 60000) :
    Calls Try.prog 91 #[ve, .int .i64 t] w fun e w' => e = .returned (.int .i64 (stS l t)) ∧ w = w' := by
  obtain ⟨A, cap, rfl, l1, l2, hr⟩ := he
  have HR := Lib.hid hr
  clear hr
  go_enter Try.func91, Try.ntmps91
  go_wp2
  go_loop [5, 6] (fun a i => ∃ k : Nat, i = .int .i64 k ∧ k ≤ l.length ∧ a = .int .i64 (stS (l.take k) t)) (fun _ i => l.length - (intOf i).toNat)
  case atStart => exact ⟨0, rfl, by omega, rfl⟩
  case round =>
    obtain ⟨k, rfl, hk, rfl⟩ := hrel
    by_cases hlt : k < l.length
    · obtain ⟨bl, off, rfl, hbl, hc⟩ := HR.out (by omega)
      obtain ⟨e, he⟩ := getElem?_lt hlt
      have c0 := hc k e he 0 _ rfl
      have c1 := hc k e he 1 _ rfl
      simp only [Nat.add_zero] at c0
      have hs := stS_succ l k e t he
      obtain ⟨a, ha⟩ : ∃ a, a = stS (l.take k) t := ⟨_, rfl⟩
      rw [← ha] at hs ⊢
      have HS := Lib.hid hs
      clear hc he ha hs
      by_cases h1 : e.thread = t
      · have b1 : (e.thread != t) = false := by simpa using h1
        by_cases k1 : e.kind = 1
        · have HV : Hid (stS (l.take (k + 1)) t = 1) := Lib.hid (by rw [HS.out]; unfold stStep; rw [if_pos h1, if_pos k1])
          have q1 : (e.kind == 1) = true := by rw [k1]; rfl
          clear k1 h1
          go_wp2
          go_round
          case rel => exact ⟨k + 1, by go_num, by omega, by rw [HV.out]⟩
          case measure => simp [intOf]; omega
        · by_cases k2 : e.kind = 2
          · have HV : Hid (stS (l.take (k + 1)) t = 2) := Lib.hid (by rw [HS.out]; unfold stStep; rw [if_pos h1, if_neg k1, if_pos k2])
            have q1 : (e.kind == 1) = false := by rw [k2]; rfl
            have q2 : (e.kind == 2) = true := by rw [k2]; rfl
            clear k1 k2 h1
            go_wp2
            go_round
            case rel => exact ⟨k + 1, by go_num, by omega, by rw [HV.out]⟩
            case measure => simp [intOf]; omega
          · by_cases k3 : e.kind = 3
            · have HV : Hid (stS (l.take (k + 1)) t = 3) := Lib.hid (by rw [HS.out]; unfold stStep; rw [if_pos h1, if_neg k1, if_neg k2, if_pos k3])
              have q1 : (e.kind == 1) = false := by rw [k3]; rfl
              have q2 : (e.kind == 2) = false := by rw [k3]; rfl
              have q3 : (e.kind == 3) = true := by rw [k3]; rfl
              clear k1 k2 k3 h1
              go_wp2
              go_round
              case rel => exact ⟨k + 1, by go_num, by omega, by rw [HV.out]⟩
              case measure => simp [intOf]; omega
            · by_cases k4 : e.kind = 4
              · have HV : Hid (stS (l.take (k + 1)) t = 0) := Lib.hid (by rw [HS.out]; unfold stStep; rw [if_pos h1, if_neg k1, if_neg k2, if_neg k3, if_pos k4])
                have q1 : (e.kind == 1) = false := by rw [k4]; rfl
                have q2 : (e.kind == 2) = false := by rw [k4]; rfl
                have q3 : (e.kind == 3) = false := by rw [k4]; rfl
                have q4 : (e.kind == 4) = true := by rw [k4]; rfl
                clear k1 k2 k3 k4 h1
                go_wp2
                go_round
                case rel => exact ⟨k + 1, by go_num, by omega, by rw [HV.out]⟩
                case measure => simp [intOf]; omega
              · have HV : Hid (stS (l.take (k + 1)) t = a) := Lib.hid (by rw [HS.out]; unfold stStep; rw [if_pos h1, if_neg k1, if_neg k2, if_neg k3, if_neg k4])
                have q1 : (e.kind == 1) = false := by simpa using k1
                have q2 : (e.kind == 2) = false := by simpa using k2
                have q3 : (e.kind == 3) = false := by simpa using k3
                have q4 : (e.kind == 4) = false := by simpa using k4
                clear k1 k2 k3 k4 h1
                go_wp2
                go_round
                case rel => exact ⟨k + 1, by go_num, by omega, by rw [HV.out]⟩
                case measure => simp [intOf]; omega
      · have b1 : (e.thread != t) = true := by simpa using h1
        have HV : Hid (stS (l.take (k + 1)) t = a) := Lib.hid (by rw [HS.out]; unfold stStep; rw [if_neg h1])
        clear h1
        go_wp2
        go_round
        case rel => exact ⟨k + 1, by go_num, by omega, by rw [HV.out]⟩
        case measure => simp [intOf]; omega
    · obtain rfl : k = l.length := by omega
      rw [List.take_length]
      go_wp2
      go_ret
      exact ⟨rfl, rfl⟩

def AInt (w : World) (e : Ending) (w' : World) : Prop := ∃ z : Int, e = .returned (.int .i64 z) ∧ w = w'
def rdStep (b : Bool) (t : Int) (e : Ev) : Bool := if e.thread = t then (if e.kind = 1 then e.read else if e.kind = 4 then false else b) else b
def rdS (l : List Ev) (t : Int) : Bool := l.foldl (fun b e => rdStep b t e) false
theorem rdS_succ (l : List Ev) (k : Nat) (e : Ev) (t : Int) (h : l[k]? = some e) : rdS (l.take (k + 1)) t = rdStep (rdS (l.take k) t) t e := by rw [take_succ_of h]; unfold rdS; rw [List.foldl_append]; rfl
set_option maxRecDepth 100000 in
set_option maxHeartbeats 1000000 in
theorem readsE_any (w : World) (ve : Value) (l : List Ev) (t : Int) (he : RdL w ve 4 encE l) (hlen : l.length ≤ 60000) :
    Calls Try.prog 92 #[ve, .int .i64 t] w fun e w' => e = .returned (.bool (rdS l t)) ∧ w = w' := by
  obtain ⟨A, cap, rfl, l1, l2, hr⟩ := he
  have HR := Lib.hid hr
  clear hr
  go_enter Try.func92, Try.ntmps92
  go_wp2
  go_loop [5, 6] (fun a i => ∃ (k : Nat), i = .int .i64 k ∧ k ≤ l.length ∧ a = .bool (rdS (l.take k) t)) (fun _ i => l.length - (intOf i).toNat)
  case atStart => exact ⟨0, rfl, by omega, rfl⟩
  case round =>
    obtain ⟨k, rfl, hk, rfl⟩ := hrel
    by_cases hlt : k < l.length
    · obtain ⟨bl, off, rfl, hbl, hc⟩ := HR.out (by omega)
      obtain ⟨e, he⟩ := getElem?_lt hlt
      have c0 := hc k e he 0 _ rfl
      have c1 := hc k e he 1 _ rfl
      have c2 := hc k e he 2 _ rfl
      simp only [Nat.add_zero] at c0
      have hs := rdS_succ l k e t he
      obtain ⟨b, hb⟩ : ∃ b, b = rdS (l.take k) t := ⟨_, rfl⟩
      rw [← hb] at hs ⊢
      have HS := Lib.hid hs
      clear hc he hb hs
      cases b1 : (e.thread != t)
      · have e1 : e.thread = t := by simpa using b1
        cases k1 : (e.kind == 1)
        · have n1 : ¬ e.kind = 1 := by simpa using k1
          cases k4 : (e.kind == 4)
          · have HV : Hid (rdS (l.take (k + 1)) t = b) := Lib.hid (by rw [HS.out]; unfold rdStep; rw [if_pos e1, if_neg n1, if_neg (by simpa using k4)])
            clear e1 n1
            go_wp2
            go_round
            case rel => exact ⟨k + 1, by go_num, by omega, by rw [HV.out]⟩
            case measure => simp [intOf]; omega
          · have HV : Hid (rdS (l.take (k + 1)) t = false) := Lib.hid (by rw [HS.out]; unfold rdStep; rw [if_pos e1, if_neg n1, if_pos (by simpa using k4)])
            clear e1 n1
            go_wp2
            go_round
            case rel => exact ⟨k + 1, by go_num, by omega, by rw [HV.out]⟩
            case measure => simp [intOf]; omega
        · have k4 : (e.kind == 4) = false := by
            rw [beq_iff_eq] at k1; rw [k1]; rfl
          have HV : Hid (rdS (l.take (k + 1)) t = e.read) := Lib.hid (by rw [HS.out]; unfold rdStep; rw [if_pos e1, if_pos (by simpa using k1)])
          clear e1
          go_wp2
          go_round
          case rel => exact ⟨k + 1, by go_num, by omega, by rw [HV.out]⟩
          case measure => simp [intOf]; omega
      · have e1 : ¬ e.thread = t := by simpa using b1
        have HV : Hid (rdS (l.take (k + 1)) t = b) := Lib.hid (by rw [HS.out]; unfold rdStep; rw [if_neg e1])
        clear e1
        go_wp2
        go_round
        case rel => exact ⟨k + 1, by go_num, by omega, by rw [HV.out]⟩
        case measure => simp [intOf]; omega
    · obtain rfl : k = l.length := by omega
      rw [List.take_length]
      go_wp2
      go_ret
      exact ⟨rfl, rfl⟩

set_option maxRecDepth 100000 in
set_option maxHeartbeats 1000000 in
theorem writer_any (w : World) (ve : Value) (l : List Ev) (he : RdL w ve 4 encE l) (hlen : l.length ≤ 60000) :
    Calls Try.prog 93 #[.int .i64 9, ve] w (AInt w) := by
  have HE := Lib.hid he
  clear he
  go_enter Try.func93, Try.ntmps93
  go_wp2
  go_loop [5] (fun i => ∃ k : Nat, i = .int .i64 k ∧ k ≤ 9) (fun i => 9 - (intOf i).toNat)
  case atStart => exact ⟨0, rfl, by omega⟩
  case round =>
    obtain ⟨k, rfl, hk⟩ := hrel
    by_cases hlt : k < 9
    · go_wp2_with fail
      refine (some9 _).mono ?_
      rintro en w1 ⟨rfl, rfl⟩
      go_wp2_with fail
      refine (state_any _ _ l _ HE.out hlen).mono ?_
      rintro en w1 ⟨rfl, rfl⟩
      cases hst : (stS l k == 2)
      · go_wp2
        go_round
        case rel => exact ⟨k + 1, by go_num, by omega⟩
        case measure => simp [intOf]; omega
      · go_wp2_with fail
        refine (readsE_any _ _ l _ HE.out hlen).mono ?_
        rintro en w1 ⟨rfl, rfl⟩
        cases rdS l k
        · go_wp2
          go_ret
          exact ⟨_, rfl, rfl⟩
        · go_wp2
          go_round
          case rel => exact ⟨k + 1, by go_num, by omega⟩
          case measure => simp [intOf]; omega
    · go_wp2_with fail
      refine (some9 _).mono ?_
      rintro en w1 ⟨rfl, rfl⟩
      go_wp2
      go_ret
      exact ⟨_, rfl, rfl⟩

set_option maxRecDepth 100000 in
set_option maxHeartbeats 1000000 in
theorem readers_any (w : World) (ve : Value) (l : List Ev) (he : RdL w ve 4 encE l) (hlen : l.length ≤ 60000) :
    Calls Try.prog 94 #[.int .i64 9, ve] w (AInt w) := by
  have HE := Lib.hid he
  clear he
  go_enter Try.func94, Try.ntmps94
  go_wp2
  go_loop [5, 6] (fun a i => ∃ (k : Nat) (m : Int), i = .int .i64 k ∧ k ≤ 9 ∧ a = .int .i64 m ∧ 0 ≤ m ∧ m ≤ k) (fun _ i => 9 - (intOf i).toNat)
  case atStart => exact ⟨0, 0, rfl, by omega, rfl, by omega, by omega⟩
  case round =>
    obtain ⟨k, m, rfl, hk, rfl, hm0, hm1⟩ := hrel
    by_cases hlt : k < 9
    · go_wp2_with fail
      refine (some9 _).mono ?_
      rintro en w1 ⟨rfl, rfl⟩
      go_wp2_with fail
      refine (state_any _ _ l _ HE.out hlen).mono ?_
      rintro en w1 ⟨rfl, rfl⟩
      cases hst : (stS l k == 2)
      · go_wp2
        go_round
        case rel => exact ⟨k + 1, m, by go_num, by omega, rfl, by omega, by omega⟩
        case measure => simp [intOf]; omega
      · go_wp2_with fail
        refine (readsE_any _ _ l _ HE.out hlen).mono ?_
        rintro en w1 ⟨rfl, rfl⟩
        cases rdS l k
        · go_wp2
          go_round
          case rel => exact ⟨k + 1, m, by go_num, by omega, rfl, by omega, by omega⟩
          case measure => simp [intOf]; omega
        · go_wp2
          go_round
          case rel => exact ⟨k + 1, m + 1, by go_num, by omega, rfl, by omega, by omega⟩
          case measure => simp [intOf]; omega
    · go_wp2_with fail
      refine (some9 _).mono ?_
      rintro en w1 ⟨rfl, rfl⟩
      go_wp2
      go_ret
      exact ⟨_, rfl, rfl⟩

def DoPost (w : World) (l : List Ev) (e : Ev) (en : Ending) (w' : World) : Prop := ∃ r : Int, en = .returned (.int .i64 r) ∧ (r = 0 → stS l e.thread = e.kind - 1) ∧ Below w.heap.size w w'
set_option maxRecDepth 100000 in
set_option maxHeartbeats 2000000 in
theorem do11_any (w : World) (ve : Value) (l : List Ev) (e : Ev) (he : RdL w ve 4 encE l) (hlen : l.length ≤ 60000) (h1 : 1 ≤ e.kind) (h4 : e.kind ≤ 4) :
    Calls Try.prog 61 #[.int .i64 9, ve, .agg #[.int .i64 e.kind, .int .i64 e.thread, .bool e.read, .int .i64 e.count]] w (DoPost w l e) := by
  have HE := Lib.hid he
  clear he
  have q0 : (e.kind == 0) = false := by rw [beq_eq_false_iff_ne]; omega
  have q5 : (e.kind == 5) = false := by rw [beq_eq_false_iff_ne]; omega
  go_enter Try.func61, Try.ntmps61
  by_cases ht : e.thread < 0
  · go_wp2
    go_quiet ((go_at_call 90; exact quiet_left (some9 _)))
    go_wp2
    go_ret
    exact ⟨_, rfl, fun h => absurd h (by decide), below_drewN ((Below.refl _ _).alloc (Nat.le_refl _) _) _⟩
  · have ht0 : decide (e.thread < 0) = false := decide_eq_false ht
    by_cases ht9 : 9 ≤ e.thread
    · go_wp2
      go_quiet ((go_at_call 90; exact quiet_left (some9 _)))
      go_wp2
      go_ret
      exact ⟨_, rfl, fun h => absurd h (by decide), below_drewN ((Below.refl _ _).alloc (Nat.le_refl _) _) _⟩
    · go_wp2
      go_quiet ((go_at_call 90; exact quiet_left (some9 _)))
      have HQ : Hid (RdL ((w.alloc (.cells #[.int .i64 e.kind, .int .i64 e.thread, .bool e.read, .int .i64 e.count] 57)).drewN nq) ve 4 encE l) := Lib.hid ((HE.out.alloc _).drewN _)
      have HB : Hid (Below w.heap.size w ((w.alloc (.cells #[.int .i64 e.kind, .int .i64 e.thread, .bool e.read, .int .i64 e.count] 57)).drewN nq)) := Lib.hid (below_drewN ((Below.refl _ _).alloc (Nat.le_refl _) _) _)
      go_wp2_with fail
      refine (state_any _ _ l _ HQ.out hlen).mono ?_
      rintro en w1 ⟨rfl, rfl⟩
      obtain ⟨a, ha⟩ : ∃ a, a = stS l e.thread := ⟨_, rfl⟩
      rw [← ha]
      have HA := Lib.hid ha
      clear ha
      cases k1 : (e.kind == 1)
      · cases k2 : (a != e.kind - 1)
        · have hgood : Hid (stS l e.thread = e.kind - 1) := Lib.hid (by rw [← HA.out]; simpa using k2)
          cases hrr : e.read <;> cases hr2 : rdS l e.thread
          · go_wp2
            go_quiet ((go_at_call 92; exact quiet_add_left (readsE_any _ _ l _ (HE.out.alloc _) hlen)))
            cases k3 : (e.kind == 2)
            · go_wp2
              go_ret
              exact ⟨_, rfl, fun _ => hgood.out, by first | exact below_drewN (below_drewN ((Below.refl _ _).alloc (Nat.le_refl _) _) _) _ | exact below_drewN ((Below.refl _ _).alloc (Nat.le_refl _) _) _⟩
            · go_wp2_with fail
              refine (writer_any _ _ l ((HE.out.alloc _).drewN _) hlen).mono ?_
              rintro en w1 ⟨z, rfl, rfl⟩
              by_cases hz : 0 ≤ z
              · go_wp2
                go_ret
                exact ⟨_, rfl, fun h => absurd h (by decide), by first | exact below_drewN (below_drewN ((Below.refl _ _).alloc (Nat.le_refl _) _) _) _ | exact below_drewN ((Below.refl _ _).alloc (Nat.le_refl _) _) _⟩
              · go_wp2_with fail
                refine (readers_any _ _ l ((HE.out.alloc _).drewN _) hlen).mono ?_
                rintro en w1 ⟨z2, rfl, rfl⟩
                by_cases hz2 : 0 < z2
                · go_wp2
                  go_ret
                  exact ⟨_, rfl, fun h => absurd h (by decide), by first | exact below_drewN (below_drewN ((Below.refl _ _).alloc (Nat.le_refl _) _) _) _ | exact below_drewN ((Below.refl _ _).alloc (Nat.le_refl _) _) _⟩
                · go_wp2
                  go_ret
                  exact ⟨_, rfl, fun _ => hgood.out, by first | exact below_drewN (below_drewN ((Below.refl _ _).alloc (Nat.le_refl _) _) _) _ | exact below_drewN ((Below.refl _ _).alloc (Nat.le_refl _) _) _⟩
          · go_wp2
            go_quiet ((go_at_call 92; exact quiet_add_left (readsE_any _ _ l _ (HE.out.alloc _) hlen)))
            go_wp2
            go_ret
            exact ⟨_, rfl, fun h => absurd h (by decide), by first | exact below_drewN (below_drewN ((Below.refl _ _).alloc (Nat.le_refl _) _) _) _ | exact below_drewN ((Below.refl _ _).alloc (Nat.le_refl _) _) _⟩
          · go_wp2
            go_quiet ((go_at_call 92; exact quiet_add_left (readsE_any _ _ l _ (HE.out.alloc _) hlen)))
            go_wp2
            go_ret
            exact ⟨_, rfl, fun h => absurd h (by decide), by first | exact below_drewN (below_drewN ((Below.refl _ _).alloc (Nat.le_refl _) _) _) _ | exact below_drewN ((Below.refl _ _).alloc (Nat.le_refl _) _) _⟩
          · go_wp2
            go_quiet ((go_at_call 92; exact quiet_add_left (readsE_any _ _ l _ (HE.out.alloc _) hlen)))
            cases k3 : (e.kind == 2)
            · go_wp2
              go_ret
              exact ⟨_, rfl, fun _ => hgood.out, by first | exact below_drewN (below_drewN ((Below.refl _ _).alloc (Nat.le_refl _) _) _) _ | exact below_drewN ((Below.refl _ _).alloc (Nat.le_refl _) _) _⟩
            · go_wp2_with fail
              refine (writer_any _ _ l ((HE.out.alloc _).drewN _) hlen).mono ?_
              rintro en w1 ⟨z, rfl, rfl⟩
              by_cases hz : 0 ≤ z
              · go_wp2
                go_ret
                exact ⟨_, rfl, fun h => absurd h (by decide), by first | exact below_drewN (below_drewN ((Below.refl _ _).alloc (Nat.le_refl _) _) _) _ | exact below_drewN ((Below.refl _ _).alloc (Nat.le_refl _) _) _⟩
              · go_wp2
                go_ret
                exact ⟨_, rfl, fun _ => hgood.out, by first | exact below_drewN (below_drewN ((Below.refl _ _).alloc (Nat.le_refl _) _) _) _ | exact below_drewN ((Below.refl _ _).alloc (Nat.le_refl _) _) _⟩
        · go_wp2
          go_ret
          exact ⟨_, rfl, fun h => absurd h (by decide), HB.out⟩
      · cases k2 : (a != 0)
        · have hgood : Hid (stS l e.thread = e.kind - 1) := Lib.hid (by rw [← HA.out]; simp at k1 k2; omega)
          go_wp2
          go_ret
          exact ⟨_, rfl, fun _ => hgood.out, HB.out⟩
        · go_wp2
          go_ret
          exact ⟨_, rfl, fun h => absurd h (by decide), HB.out⟩
end Go.Proofs.Ytfbiejkdeadheaa
