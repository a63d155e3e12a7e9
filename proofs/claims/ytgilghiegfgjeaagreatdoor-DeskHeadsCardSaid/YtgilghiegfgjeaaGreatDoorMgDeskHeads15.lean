/- Joined: Dh1, Dh2. -/
import Derived.Laws.StructEq
import Derived.SliceStrings
import Derived.ChangeAt
import Derived.OpenShut
import Derived.Test.YtgilghiegfgjeaaGreatDoorMgDeskHeads5
import Derived.Test.YtgilghiegfgjeaaGreatDoorMgDeskHeads6
import Derived.Test.YtgilghiegfgjeaaGreatDoorMgDeskHeads14
section
set_option linter.unusedVariables false
set_option linter.unusedSimpArgs false
/- DeskHeads: the walk of the law. -/
namespace Go.Proofs.YtgilghiegfgjeaaGreatDoor
open Go.RowKit Go.Shelf Dk

@[go_sem] theorem guardSpecD : Tryz.prog.eqGuardType Tryz.prog.depth 32 = false := by kernel_rfl
theorem SpecRes.form {ws : List ByteArray} {u : Value} (h : SpecRes ws u) : ∃ k g l p b e : Int, u = .tuple #[.agg #[.int .i64 k, .int .i64 g, .int .i64 l, .int .i64 p, .int .i64 b], .int .i64 e] := by
  rcases h with ⟨_, rfl⟩ | ⟨n, g, l, p, b, _, k, _, rfl⟩
  · exact ⟨_, _, _, _, _, _, rfl⟩
  · by_cases h : k = 0
    · rw [if_pos h]; exact ⟨_, _, _, _, _, _, rfl⟩
    · rw [if_neg h]; exact ⟨_, _, _, _, _, _, rfl⟩
theorem nameS_kind {k : Int} (h : 1 ≤ k ∧ k ≤ 13) : KindIs (nameS k) k.toNat := .inr ⟨by omega, by omega, rfl⟩
/-- a lock's line, read back -/
theorem back_res {k g l p b : Int} (h : 1 ≤ k ∧ k ≤ 13) (hg : inR g) (hl : inR l) (hp : inR p) (hb : inR b) {u : Value} (hu : SpecRes (Lib.goFieldsP blankN (lineB (nameS k) g l p b)) u) :
    u = .tuple #[.agg #[.int .i64 k, .int .i64 g, .int .i64 l, .int .i64 p, .int .i64 b], .int .i64 0] := by
  have hw : Lib.goFieldsP blankN (lineB (nameS k) g l p b) = [lockB, nameS k, txtB g, txtB l, txtB p, txtB b] := line_words (k := k.toNat) (by omega) (by omega) g l p b
  rw [hw] at hu
  have hs := line_spec (n := nameS k) hg hl hp hb
  refine hu.uniq (.inr ⟨_, _, _, _, _, hs, k.toNat, nameS_kind h, ?_⟩)
  rw [if_neg (by omega)]
  show _ = Value.tuple #[specV ((k.toNat : Nat) : Int) g l p b, .int .i64 0]
  rw [show ((k.toNat : Nat) : Int) = k by omega]
  rfl
theorem line_fields {k g l p b : Int} (h : 1 ≤ k ∧ k ≤ 13) : (Lib.goFieldsP blankN (lineB (nameS k) g l p b)).length = 6 := by
  rw [show Lib.goFieldsP blankN (lineB (nameS k) g l p b) = [lockB, nameS k, txtB g, txtB l, txtB p, txtB b] from line_words (k := k.toNat) (by omega) (by omega) g l p b]
  rfl
theorem lineB_small {k g l p b : Int} (h : 1 ≤ k ∧ k ≤ 13) (hg : inR g) (hl : inR l) (hp : inR p) (hb : inR b) : (lineB (nameS k) g l p b).size ≤ 4294967296 := by
  have h0 : (nameS k).size ≤ 7 := nmB_size _ (by omega)
  have h1 := txt_len hg
  have h2 := txt_len hl
  have h3 := txt_len hp
  have h4 := txt_len hb
  have h5 : (nameS k).data.toList.length = (nameS k).size := lenData _
  rw [← lenData]
  unfold lineB
  simp only [joinW, lineL, List.length_append, List.length_cons]
  have h6 : lockB.data.toList.length = 4 := rfl
  omega
theorem line_words_small {k g l p b : Int} (h : 1 ≤ k ∧ k ≤ 13) (hg : inR g) (hl : inR l) (hp : inR p) (hb : inR b) : ∀ s ∈ Lib.goFieldsP blankN (lineB (nameS k) g l p b), s.size ≤ 4294967296 := by
  rw [show Lib.goFieldsP blankN (lineB (nameS k) g l p b) = [lockB, nameS k, txtB g, txtB l, txtB p, txtB b] from line_words (k := k.toNat) (by omega) (by omega) g l p b]
  intro s hs
  have h0 : (nameS k).size ≤ 7 := nmB_size _ (by omega)
  have h1 := txt_len20 hg
  have h2 := txt_len20 hl
  have h3 := txt_len20 hp
  have h4 := txt_len20 hb
  have h6 : lockB.size = 4 := rfl
  simp only [List.mem_cons, List.not_mem_nil, or_false] at hs
  rcases hs with rfl | rfl | rfl | rfl | rfl | rfl <;> omega
set_option maxRecDepth 100000 in
theorem heads_long (w : World) (A : Option Addr) (n cap : Nat) (k g lo p b : Int) (h20 : 20 < n) :
    Calls Tryz.prog 4 #[.slice A n cap, .agg #[.int .i64 k, .int .i64 g, .int .i64 lo, .int .i64 p, .int .i64 b]] w fun e w' => e = .returned (.bool true) ∧ Below w.heap.size w w' := by
  have h20' : (20 : Int) < (n : Int) := by omega
  go_enter Tryz.func4, Tryz.ntmps4
  go_wp2_with fail
  refine (awake48 _).mono ?_
  rintro e w7 ⟨rfl, hb7⟩
  have H7 := Lib.hid (((Below.refl _ w).alloc (Nat.le_refl _) (.cells #[.int .i64 k, .int .i64 g, .int .i64 lo, .int .i64 p, .int .i64 b] 32)).trans (hb7.mono (by simp)))
  clear hb7
  go_wp2
  go_ret
  exact ⟨rfl, H7.out⟩
set_option maxRecDepth 100000 in
set_option maxHeartbeats 8000000 in
theorem heads48 (w : World) (v : Value) (l : List ByteArray) (k g lo p b : Int) (hR : RdL w v 1 encS l) (hbig : l.length ≤ 140737488355328) (hk : inR k) (hg : inR g) (hl : inR lo) (hp : inR p) (hb : inR b) :
    Calls Tryz.prog 4 #[v, .agg #[.int .i64 k, .int .i64 g, .int .i64 lo, .int .i64 p, .int .i64 b]] w fun e w' => e = .returned (.bool true) ∧ Below w.heap.size w w' := by
  have HR := Lib.hid hR
  obtain ⟨A, cap, rfl⟩ : ∃ A cap, v = .slice A l.length cap := by
    obtain ⟨A, cap, e, _⟩ := hR
    exact ⟨A, cap, e⟩
  have hlc : l.length ≤ cap := by
    obtain ⟨A', cap', e, h1, _⟩ := hR
    injection e with e1 e2 e3
    omega
  clear hR
  by_cases h20 : 20 < l.length
  · exact heads_long w A l.length cap k g lo p b h20
  · have h20' : ¬ (20 : Int) < (l.length : Int) := by omega
    go_enter Tryz.func4, Tryz.ntmps4
    go_wp2
    obtain ⟨w0, hw0⟩ : ∃ w0, w0 = w.alloc (.cells #[.int .i64 k, .int .i64 g, .int .i64 lo, .int .i64 p, .int .i64 b] 32) := ⟨_, rfl⟩
    have b0 : Below w.heap.size w w0 := by rw [hw0]; exact (Below.refl _ w).alloc (Nat.le_refl _) _
    have B0 : Blk w0 w.heap.size 32 #[.int .i64 k, .int .i64 g, .int .i64 lo, .int .i64 p, .int .i64 b] := by rw [hw0]; exact Blk.new _ _ _
    have R0 : RdL w0 (.slice A l.length cap) 1 encS l := by rw [hw0]; exact HR.out.alloc _
    rw [← hw0]
    have H0 := Lib.hid (And.intro b0 (And.intro B0 R0))
    clear hw0 b0 B0 R0
    go_loopw [5] (fun j wr => ∃ i : Nat, j = .int .i64 i ∧ i ≤ l.length ∧ (∀ t s, t < i → l[t]? = some s → s.size ≤ 60) ∧ wr = w0) (fun j _ => l.length - (intOf j).toNat)
    case atStart => exact ⟨0, rfl, by omega, fun t s ht => by omega, rfl⟩
    case round =>
      obtain ⟨i, rfl, hi, hall, hwr⟩ := hrel
      obtain rfl := hwr.symm
      by_cases hlt : i < l.length
      · obtain ⟨s, hs⟩ := getElem?_lt hlt
        obtain ⟨_, _, bb, off, rfl, hbb, hcell⟩ := H0.out.2.2.word (by omega)
        have hc : w0.cell? ⟨bb, off + i, none⟩ = some (.string s) := hcell i s hs
        have HA := Lib.hid (And.intro hall hs)
        clear hall hs hcell
        by_cases h60 : 60 < s.size
        · have h60' : (60 : Int) < (s.size : Int) := by omega
          go_wp2_with fail
          refine (awake48 _).mono ?_
          rintro e w7 ⟨rfl, hb7⟩
          have H7 := Lib.hid (H0.out.1.trans (hb7.mono H0.out.1.size))
          clear hb7
          go_wp2
          go_ret
          exact ⟨rfl, H7.out⟩
        · have h60' : ¬ (60 : Int) < (s.size : Int) := by omega
          go_wp2
          go_roundw
          case rel =>
            refine ⟨i + 1, by go_num, by omega, fun t s' ht hs' => ?_, trivial⟩
            by_cases e : t = i
            · subst e
              rw [HA.out.2] at hs'
              injection hs' with hs'
              subst hs'
              omega
            · exact HA.out.1 t s' (by omega) hs'
          case measure => simp [intOf]; omega
      · obtain rfl : i = l.length := by omega
        have hss : ∀ s ∈ l, s.size ≤ 4294967296 := fun s hs => by
          obtain ⟨t, ht⟩ := List.getElem?_of_mem hs
          have := hall t s (List.getElem?_eq_some_iff.1 ht).1 ht
          omega
        have HSS := Lib.hid hss
        clear hall hss
        go_wp2_with fail
        refine (spec_any w0 _ l H0.out.2.2 (by omega) HSS.out).mono ?_
        rintro e w1 ⟨hb1, u, rfl, hu⟩
        obtain ⟨k1, g1, l1, p1, q1, e1, rfl⟩ := hu.form
        have H1 := Lib.hid (And.intro (H0.out.1.trans (hb1.mono H0.out.1.size)) (And.intro (H0.out.2.1.below hb1 H0.out.2.1.lt) (And.intro (H0.out.2.2.below hb1 (Nat.le_refl _)) hu)))
        clear hb1 hu
        go_wp2_with fail
        obtain ⟨W1, hW1⟩ : ∃ W1, W1 = w1.alloc (.cells #[.int .i64 k1, .int .i64 g1, .int .i64 l1, .int .i64 p1, .int .i64 q1] 32) := ⟨_, rfl⟩
        obtain ⟨a6, ha6⟩ : ∃ a6, a6 = w1.heap.size := ⟨_, rfl⟩
        have HW1 : Hid (Below w.heap.size w W1 ∧ Blk W1 w.heap.size 32 #[.int .i64 k, .int .i64 g, .int .i64 lo, .int .i64 p, .int .i64 b] ∧ RdL W1 (.slice A l.length cap) 1 encS l ∧ Blk W1 a6 32 #[.int .i64 k1, .int .i64 g1, .int .i64 l1, .int .i64 p1, .int .i64 q1]) := Lib.hid (by
          rw [hW1, ha6]
          exact ⟨H1.out.1.alloc H1.out.1.size _, H1.out.2.1.alloc _, H1.out.2.2.1.alloc _, Blk.new _ _ _⟩)
        rw [← hW1, ← ha6]
        clear hW1 ha6
        refine (rspec_any W1 _ l HW1.out.2.2.1 (by omega)).mono ?_
        rintro e w2 ⟨hb2, u', rfl, hu'⟩
        obtain rfl := H1.out.2.2.2.uniq hu'
        have H2 := Lib.hid (And.intro (HW1.out.1.trans (hb2.mono HW1.out.1.size)) (And.intro (HW1.out.2.1.below hb2 HW1.out.2.1.lt) (HW1.out.2.2.2.below hb2 HW1.out.2.2.2.lt)))
        clear hb2 hu'
        have y0 : ∀ o : Obj, (w2.alloc o).cell? ⟨w.heap.size, 0, none⟩ = some (.int .i64 k) := fun o => (H2.out.2.1.alloc o).cell 0
        have y1 : ∀ o : Obj, (w2.alloc o).cell? ⟨w.heap.size, 1, none⟩ = some (.int .i64 g) := fun o => (H2.out.2.1.alloc o).cell 1
        have y2 : ∀ o : Obj, (w2.alloc o).cell? ⟨w.heap.size, 2, none⟩ = some (.int .i64 lo) := fun o => (H2.out.2.1.alloc o).cell 2
        have y3 : ∀ o : Obj, (w2.alloc o).cell? ⟨w.heap.size, 3, none⟩ = some (.int .i64 p) := fun o => (H2.out.2.1.alloc o).cell 3
        have y4 : ∀ o : Obj, (w2.alloc o).cell? ⟨w.heap.size, 4, none⟩ = some (.int .i64 b) := fun o => (H2.out.2.1.alloc o).cell 4
        go_wp2_with fail
        obtain ⟨W2, hW2⟩ : ∃ W2, W2 = w2.alloc (.cells #[.int .i64 k1, .int .i64 g1, .int .i64 l1, .int .i64 p1, .int .i64 q1] 32) := ⟨_, rfl⟩
        obtain ⟨a8, ha8⟩ : ∃ a8, a8 = w2.heap.size := ⟨_, rfl⟩
        have HW2 : Hid (Below w.heap.size w W2 ∧ Blk W2 w.heap.size 32 #[.int .i64 k, .int .i64 g, .int .i64 lo, .int .i64 p, .int .i64 b] ∧ Blk W2 a6 32 #[.int .i64 k1, .int .i64 g1, .int .i64 l1, .int .i64 p1, .int .i64 q1] ∧ Blk W2 a8 32 #[.int .i64 k1, .int .i64 g1, .int .i64 l1, .int .i64 p1, .int .i64 q1]) := Lib.hid (by
          rw [hW2, ha8]
          exact ⟨H2.out.1.alloc H2.out.1.size _, H2.out.2.1.alloc _, H2.out.2.2.alloc _, Blk.new _ _ _⟩)
        rw [← hW2, ← ha8]
        clear hW2 ha8 y0 y1 y2 y3 y4
        obtain ⟨S, er, hV, hE⟩ : ∃ (S : ByteArray) (er : Int), headV k g lo p b = .tuple #[.string S, .int .i64 er] ∧ (er = 7 ∨ er = 0 ∧ (1 ≤ k ∧ k ≤ 13) ∧ S = lineB (nameS k) g lo p b) := by
          rcases nameS_cases k with hn | hn
          · exact ⟨_, _, by unfold headV; rw [if_pos hn], .inl rfl⟩
          · exact ⟨_, _, by unfold headV; rw [if_neg (nameS_ne hn)], .inr ⟨rfl, hn, rfl⟩⟩
        have HV := Lib.hid (And.intro hV hE)
        clear hV hE
        refine (head_any W2 k g lo p b hk hg hl hp hb).mono ?_
        rintro e w3 ⟨hb3, rfl⟩
        rw [HV.out.1]
        have H3 := Lib.hid (And.intro (HW2.out.1.trans (hb3.mono HW2.out.1.size)) (And.intro (HW2.out.2.1.below hb3 HW2.out.2.1.lt) (And.intro (HW2.out.2.2.1.below hb3 HW2.out.2.2.1.lt) (HW2.out.2.2.2.below hb3 HW2.out.2.2.2.lt))))
        clear hb3
        have z0 : w3.cell? ⟨w.heap.size, 0, none⟩ = some (.int .i64 k) := H3.out.2.1.cell 0
        have z1 : w3.cell? ⟨w.heap.size, 1, none⟩ = some (.int .i64 g) := H3.out.2.1.cell 1
        have z2 : w3.cell? ⟨w.heap.size, 2, none⟩ = some (.int .i64 lo) := H3.out.2.1.cell 2
        have z3 : w3.cell? ⟨w.heap.size, 3, none⟩ = some (.int .i64 p) := H3.out.2.1.cell 3
        have z4 : w3.cell? ⟨w.heap.size, 4, none⟩ = some (.int .i64 b) := H3.out.2.1.cell 4
        go_wp2_with fail
        refine (rhead_any w3 k g lo p b hk hg hl hp hb).mono ?_
        rintro e w4 ⟨hb4, rfl⟩
        rw [HV.out.1]
        have H4 := Lib.hid (And.intro (H3.out.1.trans (hb4.mono H3.out.1.size)) (And.intro (H3.out.2.1.below hb4 H3.out.2.1.lt) (And.intro (H3.out.2.2.1.below hb4 H3.out.2.2.1.lt) (H3.out.2.2.2.below hb4 H3.out.2.2.2.lt))))
        clear hb4 z0 z1 z2 z3 z4
        have m0 : w4.cell? ⟨a6, 0, none⟩ = some (.int .i64 k1) := H4.out.2.2.1.cell 0
        have m1 : w4.cell? ⟨a6, 1, none⟩ = some (.int .i64 g1) := H4.out.2.2.1.cell 1
        have m2 : w4.cell? ⟨a6, 2, none⟩ = some (.int .i64 l1) := H4.out.2.2.1.cell 2
        have m3 : w4.cell? ⟨a6, 3, none⟩ = some (.int .i64 p1) := H4.out.2.2.1.cell 3
        have m4 : w4.cell? ⟨a6, 4, none⟩ = some (.int .i64 q1) := H4.out.2.2.1.cell 4
        have n0 : w4.cell? ⟨a8, 0, none⟩ = some (.int .i64 k1) := H4.out.2.2.2.cell 0
        have n1 : w4.cell? ⟨a8, 1, none⟩ = some (.int .i64 g1) := H4.out.2.2.2.cell 1
        have n2 : w4.cell? ⟨a8, 2, none⟩ = some (.int .i64 l1) := H4.out.2.2.2.cell 2
        have n3 : w4.cell? ⟨a8, 3, none⟩ = some (.int .i64 p1) := H4.out.2.2.2.cell 3
        have n4 : w4.cell? ⟨a8, 4, none⟩ = some (.int .i64 q1) := H4.out.2.2.2.cell 4
        rcases HV.out.2 with rfl | ⟨rfl, hkk, hS⟩
        · go_wp2_with fail
          refine (awake48 _).mono ?_
          rintro e w7 ⟨rfl, hb7⟩
          have H7 := Lib.hid (H4.out.1.trans (hb7.mono H4.out.1.size))
          clear hb7
          go_wp2
          go_ret
          exact ⟨rfl, H7.out⟩
        · have HK := Lib.hid (And.intro hkk hS)
          clear hkk hS
          go_wp2_with fail
          rw [HK.out.2]
          refine (words_any w4 _ (lineB_small HK.out.1 hg hl hp hb) (by rw [line_fields HK.out.1]; omega)).mono ?_
          rintro e w5 ⟨v5, rfl, hR5, hb5⟩
          have H5 := Lib.hid (And.intro (H4.out.1.trans (hb5.mono H4.out.1.size)) (And.intro (H4.out.2.1.below hb5 H4.out.2.1.lt) hR5))
          clear hb5 hR5 m0 m1 m2 m3 m4 n0 n1 n2 n3 n4
          go_wp2_with fail
          refine (spec_any w5 v5 _ H5.out.2.2 (by rw [line_fields HK.out.1]; omega) (line_words_small HK.out.1 hg hl hp hb)).mono ?_
          rintro e w6 ⟨hb6, u6, rfl, hu6⟩
          obtain rfl := back_res HK.out.1 hg hl hp hb hu6
          have H6 := Lib.hid (And.intro (H5.out.1.trans (hb6.mono H5.out.1.size)) (H5.out.2.1.below hb6 H5.out.2.1.lt))
          clear hb6 hu6
          have y0 : ∀ o : Obj, (w6.alloc o).cell? ⟨w.heap.size, 0, none⟩ = some (.int .i64 k) := fun o => (H6.out.2.alloc o).cell 0
          have y1 : ∀ o : Obj, (w6.alloc o).cell? ⟨w.heap.size, 1, none⟩ = some (.int .i64 g) := fun o => (H6.out.2.alloc o).cell 1
          have y2 : ∀ o : Obj, (w6.alloc o).cell? ⟨w.heap.size, 2, none⟩ = some (.int .i64 lo) := fun o => (H6.out.2.alloc o).cell 2
          have y3 : ∀ o : Obj, (w6.alloc o).cell? ⟨w.heap.size, 3, none⟩ = some (.int .i64 p) := fun o => (H6.out.2.alloc o).cell 3
          have y4 : ∀ o : Obj, (w6.alloc o).cell? ⟨w.heap.size, 4, none⟩ = some (.int .i64 b) := fun o => (H6.out.2.alloc o).cell 4
          go_wp2_with fail
          refine (awake48 _).mono ?_
          rintro e w7 ⟨rfl, hb7⟩
          have H7 := Lib.hid ((H6.out.1.alloc H6.out.1.size _).trans (hb7.mono (Nat.le_trans H6.out.1.size (by simp))))
          clear hb7
          go_wp2
          go_ret
          exact ⟨rfl, H7.out⟩
end Go.Proofs.YtgilghiegfgjeaaGreatDoor
end
section
set_option linter.unusedVariables false
set_option linter.unusedSimpArgs false
/- Opening arguments: a slice of strings, a spec. -/
namespace Go.Proofs.YtgilghiegfgjeaaGreatDoor
open Go.RowKit Go.ChangeShapes Go.WideShapes Dk

theorem Tryz.cellsStrD : Tryz.prog.cellsOf 9 = 1 := by kernel_rfl
theorem Tryz.cellsIntD : Tryz.prog.cellsOf 3 = 1 := by kernel_rfl
theorem Tryz.cellsSpecD : Tryz.prog.cellsOf 32 = 5 := by kernel_rfl
theorem Tryz.cellsPairD : Tryz.prog.cellsOf 30 = 4 := by kernel_rfl
theorem addr_none {b off : Nat} (j : Nat) : (⟨b, off, none⟩ : Addr).add j = ⟨b, off + j, none⟩ := by
  unfold Addr.add; split <;> simp_all
section
variable {H : Type} {enc : TypeId × Value → H} {P : Program} {w : World} {base : Nat} {spare : Nat → Bool} {held : Bool}
/-- a slice of strings that came in -/
theorem open_RdS {t e : TypeId} {fuel : Nat} {v : Value} {x : DataW H × List MemPlace} (ht : P.underlying t = some (.slice e)) (he : P.underlying e = some .string) (hc : P.cellsOf e = 1)
    (h : DataW.trod enc P w base spare held fuel t [v] = some x) :
    ∃ A cap, ∃ zs : List ByteArray, v = .slice A zs.length cap ∧ (zs.length ≤ 140737488355328 → RdL w v 1 encS zs) := by
  rcases open_strings ht he hc h with ⟨hcs, _⟩ | ⟨a, len, cap, zs, hcs, _, hl, hm, hz, _, hcell, hwf⟩
  · simp at hcs; subst hcs
    exact ⟨none, 0, [], rfl, fun _ => RdL.nil⟩
  · simp at hcs; subst hcs
    have hzl : len ≤ zs.length := by rw [hz]; split <;> omega
    refine ⟨some a, cap, zs.take len, by simp [hzl], fun hb => ?_⟩
    have hlen : (zs.take len).length = len := by simp [hzl]
    refine ⟨some a, cap, by rw [hlen], by omega, hb, fun hn => ?_⟩
    rw [hlen] at hn
    have h0 := hcell 0 (by omega)
    obtain ⟨b, off, spot⟩ := a
    have hs : spot = none := by simpa [Addr.add] using World.cell?_spot h0
    subst hs
    refine ⟨b, off, rfl, World.block_lt_of_cell? w _ (by rw [addr_none] at h0; exact h0), fun i y hy j u hu => ?_⟩
    have hi : i < len := by have := (List.getElem?_eq_some_iff.1 hy).1; rw [hlen] at this; exact this
    have hc' := hcell i (by omega)
    rw [addr_none] at hc'
    have hj : j = 0 := by
      have := (List.getElem?_eq_some_iff.1 hu).1; simp [encS] at this; exact this
    subst hj
    have hy2 : zs.getD i ByteArray.empty = y := by
      rw [List.getElem?_take, if_pos hi] at hy
      rw [List.getD_eq_getElem?_getD, hy]; rfl
    have hu2 : u = .string y := by simpa [encS] using hu.symm
    rw [Nat.mul_one, Nat.add_zero, hc', hu2, hy2]
theorem inR_wf {n : Int} (h : (Lit.int .i64 n).wf = true) : inR n := by
  simp [Lit.wf] at h
  have e1 : IntKind.i64.min = -9223372036854775808 := by decide
  have e2 : IntKind.i64.max = 9223372036854775807 := by decide
  unfold inR
  omega
set_option maxRecDepth 100000 in
theorem open_specD {r : Reach} {b0 fuel : Nat} {v : Value} {x : DataW H × List MemPlace} (hv : Value.okWide Tryz.prog w r b0 32 v) (h : DataW.trod enc Tryz.prog w base spare held fuel 32 v.cells.toList = some x) :
    ∃ k g l p b : Int, v = .agg #[.int .i64 k, .int .i64 g, .int .i64 l, .int .i64 p, .int .i64 b] ∧ inR k ∧ inR g ∧ inR l ∧ inR p ∧ inR b := by
  obtain ⟨cs, rfl, hsz⟩ := okWide_struct Tryz.underlying32 hv
  rw [Tryz.cellsSpecD] at hsz
  obtain ⟨xs, m, _, _, _, hxl, hf⟩ := DataW.trod_struct Tryz.underlying32 h
  obtain ⟨l⟩ := cs
  match l, hsz with
  | [c0, c1, c2, c3, c4], _ =>
    match xs, hxl with
    | [y0, y1], _ =>
      have g0 := hf 0 _ rfl
      have g1 := hf 1 _ rfl
      simp [Value.cells, Tryz.cellsIntD, Tryz.cellsPairD] at g0 g1
      obtain ⟨a0, e0, _, w0⟩ := DataW.trod_int Tryz.underlying3 g0
      obtain ⟨zs, n, _, _, _, hzl, hz⟩ := DataW.trod_struct Tryz.underlying30 g1
      match zs, hzl with
      | [z0, z1, z2, z3], _ =>
        have q0 := hz 0 _ rfl
        have q1 := hz 1 _ rfl
        have q2 := hz 2 _ rfl
        have q3 := hz 3 _ rfl
        simp [Tryz.cellsIntD] at q0 q1 q2 q3
        obtain ⟨b0, u0, _, w1⟩ := DataW.trod_int Tryz.underlying3 q0
        obtain ⟨b1, u1, _, w2⟩ := DataW.trod_int Tryz.underlying3 q1
        obtain ⟨b2, u2, _, w3⟩ := DataW.trod_int Tryz.underlying3 q2
        obtain ⟨b3, u3, _, w4⟩ := DataW.trod_int Tryz.underlying3 q3
        simp at e0 u0 u1 u2 u3
        subst e0 u0 u1 u2 u3
        exact ⟨_, _, _, _, _, rfl, inR_wf w0, inR_wf w1, inR_wf w2, inR_wf w3, inR_wf w4⟩
end
end Go.Proofs.YtgilghiegfgjeaaGreatDoor
end
