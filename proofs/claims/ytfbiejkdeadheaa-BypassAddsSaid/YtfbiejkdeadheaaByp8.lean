/- Layer 14: the walk of BypassAdds. -/
import Derived.Test.YtfbiejkdeadheaaByp6
namespace Go.Proofs.Ytfbiejkdeadheaa
open Go.RowKit Go.Maps

theorem from_ex (w : World) (vn ve : Value) (ns : List Int) (l : List Ev) (t a b : Int) (hn : RdL w vn 1 encI ns) (he : RdL w ve 4 encE l) (hlen : l.length ≤ 60) :
    Calls Try.prog 24 #[vn, .int .i64 t, .int .i64 a, .int .i64 b, ve] w fun e w' => ∃ p : Int × Int, e = .returned (.agg #[.int .i64 p.1, .int .i64 p.2]) ∧ Hid (p = fromL ns t a b l) ∧ 0 ≤ p.1 ∧ p.1 ≤ 60 ∧ 0 ≤ p.2 ∧ p.2 ≤ 60 ∧ Below w.heap.size w w' :=
  (from_any w vn ve ns l t a b hn he (by omega)).mono fun e w' ⟨he, hb⟩ => by
    have := fromTo_le ns t a b l l.length
    refine ⟨_, he, Lib.hid rfl, ?_⟩
    unfold fromL
    exact ⟨by omega, by omega, by omega, by omega, hb⟩


def dE (ns : List Int) (t : Int) (e : Ev) : Int × Int := if e.kind = 2 ∧ ¬ e.thread = t then (if nodeOf ns e.thread = nodeOf ns t then (1, 0) else (0, 1)) else (0, 0)
theorem cntE_dE (ns : List Int) (t : Int) (p : Int × Int) (e : Ev) : (cntE ns t p e).1 = p.1 + (dE ns t e).1 ∧ (cntE ns t p e).2 = p.2 + (dE ns t e).2 := by
  unfold cntE dE
  split
  · split <;> simp
  · simp
theorem fromTo_adds (ns : List Int) (t : Int) (l : List Ev) (a b c : Int) (hab : a ≤ b) (hbc : b ≤ c) (k : Nat) :
    (fromTo ns t a b l k).1 + (fromTo ns t b c l k).1 + (if a = b ∨ b = c then 0 else (fromTo ns t (b - 1) (b + 1) l k).1) = (fromTo ns t a c l k).1 ∧
    (fromTo ns t a b l k).2 + (fromTo ns t b c l k).2 + (if a = b ∨ b = c then 0 else (fromTo ns t (b - 1) (b + 1) l k).2) = (fromTo ns t a c l k).2 := by
  induction k with
  | zero => simp [fromTo]
  | succ k ih =>
    cases hx : l[k]? with
    | none =>
      have e : ∀ a b, fromTo ns t a b l (k + 1) = fromTo ns t a b l k := fun a b => by
        show (match l[k]? with | some e => if a < k ∧ (k : Int) < b then cntE ns t (fromTo ns t a b l k) e else fromTo ns t a b l k | none => fromTo ns t a b l k) = _
        rw [hx]
      rw [e, e, e, e]; exact ih
    | some e =>
      obtain ⟨i1, i2⟩ := ih
      rw [fromTo_succ ns t a b l k e hx, fromTo_succ ns t b c l k e hx, fromTo_succ ns t a c l k e hx, fromTo_succ ns t (b - 1) (b + 1) l k e hx]
      have ha := cntE_dE ns t (fromTo ns t a b l k) e
      have hb := cntE_dE ns t (fromTo ns t b c l k) e
      have hc := cntE_dE ns t (fromTo ns t a c l k) e
      have hd := cntE_dE ns t (fromTo ns t (b - 1) (b + 1) l k) e
      by_cases q : a = b ∨ b = c
      · rw [if_pos q] at i1 i2 ⊢
        rw [if_pos q]
        constructor <;> (split <;> split <;> split <;> omega)
      · rw [if_neg q] at i1 i2 ⊢
        rw [if_neg q]
        constructor <;> (split <;> split <;> split <;> split <;> omega)
theorem adds_eq (ns : List Int) (t : Int) (l : List Ev) (a b c : Int) (hab : a ≤ b) (hbc : b ≤ c) (h : a = b ∨ b = c) :
    (fromL ns t a b l).1 + (fromL ns t b c l).1 = (fromL ns t a c l).1 ∧ (fromL ns t a b l).2 + (fromL ns t b c l).2 = (fromL ns t a c l).2 := by
  have := fromTo_adds ns t l a b c hab hbc l.length
  rw [if_pos h, if_pos h] at this
  unfold fromL; omega
theorem adds_ne (ns : List Int) (t : Int) (l : List Ev) (a b c : Int) (hab : a ≤ b) (hbc : b ≤ c) (h : ¬ (a = b ∨ b = c)) :
    (fromL ns t a b l).1 + (fromL ns t b c l).1 + (fromL ns t (b - 1) (b + 1) l).1 = (fromL ns t a c l).1 ∧ (fromL ns t a b l).2 + (fromL ns t b c l).2 + (fromL ns t (b - 1) (b + 1) l).2 = (fromL ns t a c l).2 := by
  have := fromTo_adds ns t l a b c hab hbc l.length
  rw [if_neg h, if_neg h] at this
  unfold fromL; omega

theorem adds_any {ns : List Int} {t a b c : Int} {l : List Ev} {px py pz pa : Int × Int} (hx : px = fromL ns t a b l) (hy : py = fromL ns t b c l) (hz : pz = fromL ns t a c l) (ha : pa = fromL ns t (b - 1) (b + 1) l) (hab : a ≤ b) (hbc : b ≤ c) :
    ((a == b) = true ∧ (px.1 + py.1 == pz.1) = true ∧ (px.2 + py.2 == pz.2) = true) ∨ ((a == b) = false ∧ (b == c) = true ∧ (px.1 + py.1 == pz.1) = true ∧ (px.2 + py.2 == pz.2) = true) ∨
    ((a == b) = false ∧ (b == c) = false ∧ (px.1 + py.1 + pa.1 == pz.1) = true ∧ (px.2 + py.2 + pa.2 == pz.2) = true) := by
  by_cases h1 : a = b
  · have := adds_eq ns t l a b c hab hbc (.inl h1)
    rw [← hx, ← hy, ← hz] at this
    left; simp only [beq_iff_eq]; exact ⟨h1, this⟩
  · by_cases h2 : b = c
    · have := adds_eq ns t l a b c hab hbc (.inr h2)
      rw [← hx, ← hy, ← hz] at this
      right; left; simp only [beq_iff_eq, beq_eq_false_iff_ne]; exact ⟨h1, h2, this⟩
    · have := adds_ne ns t l a b c hab hbc (by omega)
      rw [← hx, ← hy, ← hz, ← ha] at this
      right; right; simp only [beq_iff_eq, beq_eq_false_iff_ne]; exact ⟨h1, h2, this⟩

set_option maxRecDepth 100000 in
set_option maxHeartbeats 4000000 in
theorem adds14 (w : World) (vn ve : Value) (ns : List Int) (l : List Ev) (n0 n1 n2 n3 : Int) (hn : RdL w vn 1 encI ns) (he : RdL w ve 4 encE l) (hn20 : ns.length ≤ 20) (hl60 : l.length ≤ 60)
    (w0 : 0 ≤ n0 ∧ n0 ≤ 255) (w1 : 0 ≤ n1 ∧ n1 ≤ 255) (w2 : 0 ≤ n2 ∧ n2 ≤ 255) (w3 : 0 ≤ n3 ∧ n3 ≤ 255) :
    Calls Try.prog 5 #[vn, ve, .agg #[.int .u8 n0, .int .u8 n1, .int .u8 n2, .int .u8 n3]] w fun e w' => e = .returned (.bool true) ∧ Below w.heap.size w w' := by
  obtain ⟨An, cn, rfl, m1, m2, nr⟩ := hn
  have HN : Hid (RdL w (.slice An ns.length cn) 1 encI ns) := Lib.hid ⟨An, cn, rfl, m1, m2, nr⟩
  obtain ⟨A, cap, rfl, l1, l2, hr⟩ := he
  have HR : Hid (RdL w (.slice A l.length cap) 4 encE l) := Lib.hid ⟨A, cap, rfl, l1, l2, hr⟩
  clear nr hr m1 m2
  go_enter Try.func5, Try.ntmps5
  go_wp2
  go_quiet (fail)
  go_wp2_with fail
  all_goals
    have HQ : Hid (Below (w.heap.size + 1) ((w.alloc (.cells #[.int .u8 n0, .int .u8 n1, .int .u8 n2, .int .u8 n3] 51)).drewN nq) ((w.alloc (.cells #[.int .u8 n0, .int .u8 n1, .int .u8 n2, .int .u8 n3] 51)).drewN nq)) := Lib.hid (Below.refl _ _)
    have HBW : Hid (Below w.heap.size w ((w.alloc (.cells #[.int .u8 n0, .int .u8 n1, .int .u8 n2, .int .u8 n3] 51)).drewN nq)) := Lib.hid (below_drewN ((Below.refl _ _).alloc (Nat.le_refl _) _) nq)
    generalize (w.alloc (.cells #[.int .u8 n0, .int .u8 n1, .int .u8 n2, .int .u8 n3] 51)).drewN nq = V at HBW ⊢
    have hv := HBW.out.size
    refine (from_ex V _ _ ns l _ _ _ (HN.out.below HBW.out (Nat.le_refl _)) (HR.out.below HBW.out (Nat.le_refl _)) hl60).mono ?_
    rintro en w1 ⟨px, rfl, hx, x1, x2, x3, x4, b1⟩
    have B1 := Lib.hid (HBW.out.trans (b1.mono hv))
    have s1 := b1.size
    clear b1
    go_wp2_with fail
    refine (from_ex w1 _ _ ns l _ _ _ (HN.out.below B1.out (Nat.le_refl _)) (HR.out.below B1.out (Nat.le_refl _)) hl60).mono ?_
    rintro en w2 ⟨py, rfl, hy, y1, y2, y3, y4, b2⟩
    have B2 := Lib.hid (B1.out.trans (b2.mono (by omega)))
    have s2 := b2.size
    clear b2
    go_wp2_with fail
    refine (from_ex w2 _ _ ns l _ _ _ (HN.out.below B2.out (Nat.le_refl _)) (HR.out.below B2.out (Nat.le_refl _)) hl60).mono ?_
    rintro en w3 ⟨pz, rfl, hz, z1, z2, z3, z4, b3⟩
    have B3 := Lib.hid (B2.out.trans (b3.mono (by omega)))
    have s3 := b3.size
    clear b3
    go_wp2_with fail
    refine (from_ex _ _ _ ns l _ _ _ (HN.out.below (((B3.out.alloc (by omega) _).alloc (by simp; omega) _).alloc (by simp; omega) _) (Nat.le_refl _)) (HR.out.below (((B3.out.alloc (by omega) _).alloc (by simp; omega) _).alloc (by simp; omega) _) (Nat.le_refl _)) hl60).mono ?_
    rintro en w4 ⟨pa, rfl, ha, a1, a2, a3, a4, b4⟩
    have k1 : w3.heap.size + 3 ≤ w4.heap.size := by have := b4.size; simpa using this
    have j0 : w3.heap.size < w4.heap.size := by omega
    have j1 : w3.heap.size + 1 < w4.heap.size := by omega
    have j2 : w3.heap.size + 1 + 1 < w4.heap.size := by omega
    have kx : Blk w4 w3.heap.size 46 #[.int .i64 px.1, .int .i64 px.2] := (((Blk.new' w3 _ _ rfl).alloc _).alloc _).below b4 (by simp; omega)
    have ky : Blk w4 (w3.heap.size + 1) 46 #[.int .i64 py.1, .int .i64 py.2] := ((Blk.new' _ _ _ (by simp)).alloc _).below b4 (by simp)
    have kz : Blk w4 (w3.heap.size + 1 + 1) 46 #[.int .i64 pz.1, .int .i64 pz.2] := (Blk.new' _ _ _ (by simp)).below b4 (by simp)
    have cx0 : w4.cell? ⟨w3.heap.size, 0, none⟩ = some (.int .i64 px.1) := kx.cell 0
    have cx1 : w4.cell? ⟨w3.heap.size, 1, none⟩ = some (.int .i64 px.2) := kx.cell 1
    have cy0 : w4.cell? ⟨w3.heap.size + 1, 0, none⟩ = some (.int .i64 py.1) := ky.cell 0
    have cy1 : w4.cell? ⟨w3.heap.size + 1, 1, none⟩ = some (.int .i64 py.2) := ky.cell 1
    have cz0 : w4.cell? ⟨w3.heap.size + 1 + 1, 0, none⟩ = some (.int .i64 pz.1) := kz.cell 0
    have cz1 : w4.cell? ⟨w3.heap.size + 1 + 1, 1, none⟩ = some (.int .i64 pz.2) := kz.cell 1
    have B4 := Lib.hid ((((B3.out.alloc (by omega) (.cells #[.int .i64 px.1, .int .i64 px.2] 46)).alloc (by simp; omega) (.cells #[.int .i64 py.1, .int .i64 py.2] 46)).alloc (by simp; omega) (.cells #[.int .i64 pz.1, .int .i64 pz.2] 46)).trans (b4.mono (by simp; omega)))
    have E := adds_any hx.out hy.out hz.out ha.out (by omega) (by omega)
    clear b4 kx ky kz hx hy hz ha
    rcases E with ⟨t1, t3, t4⟩ | ⟨t1, t2, t3, t4⟩ | ⟨t1, t2, t3, t4⟩
    all_goals
      go_wp2_with fail
      refine (awake14 _).mono ?_
      rintro en w5 ⟨rfl, b5⟩
      go_wp2
      go_ret
      refine ⟨rfl, (?_ : Below w.heap.size w _).trans (b5.mono (by simp; omega))⟩
      exact B4.out.alloc (by omega) _

theorem longA_ns (w : World) (An : Option Addr) (nn cn : Nat) (ve : Value) (n0 n1 n2 n3 : Int) (h : 20 < nn) (h2 : nn ≤ 9223372036854775807) :
    Calls Try.prog 5 #[.slice An nn cn, ve, .agg #[.int .u8 n0, .int .u8 n1, .int .u8 n2, .int .u8 n3]] w fun e w' => e = .returned (.bool true) ∧ Below w.heap.size w w' := by
  go_enter Try.func5, Try.ntmps5
  go_wp2_with fail
  refine (awake14 _).mono ?_
  rintro en w1 ⟨rfl, hb⟩
  go_wp2
  go_ret
  exact ⟨rfl, ((Below.refl _ _).alloc (Nat.le_refl _) _).trans (hb.mono (by simp))⟩
theorem longA_l (w : World) (An : Option Addr) (nn cn : Nat) (A : Option Addr) (m c : Nat) (n0 n1 n2 n3 : Int) (h : nn ≤ 20) (h1 : 60 < m) (h2 : m ≤ 9223372036854775807) :
    Calls Try.prog 5 #[.slice An nn cn, .slice A m c, .agg #[.int .u8 n0, .int .u8 n1, .int .u8 n2, .int .u8 n3]] w fun e w' => e = .returned (.bool true) ∧ Below w.heap.size w w' := by
  have h' : ¬ 20 < (nn : Int) := by omega
  go_enter Try.func5, Try.ntmps5
  go_wp2_with fail
  refine (awake14 _).mono ?_
  rintro en w1 ⟨rfl, hb⟩
  go_wp2
  go_ret
  exact ⟨rfl, ((Below.refl _ _).alloc (Nat.le_refl _) _).trans (hb.mono (by simp))⟩
end Go.Proofs.Ytfbiejkdeadheaa
