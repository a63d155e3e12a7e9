/- Layer 14: bypass.Worst; the law's own test. -/
import Derived.Test.YtfbiejkdeadheaaByp5
import Derived.Test.YtfbiejkdeadheaaSameP
namespace Go.Proofs.Ytfbiejkdeadheaa
open Go.RowKit Go.Maps

def maxP (a x : Int × Int) : Int × Int := (if a.1 < x.1 then x.1 else a.1, if a.2 < x.2 then x.2 else a.2)
def worstTo (l : List (Int × Int)) : Nat → Int × Int
  | 0 => (0, 0)
  | k + 1 => match l[k]? with
    | some x => maxP (worstTo l k) x
    | none => worstTo l k
theorem worstTo_succ (l : List (Int × Int)) (k : Nat) (x : Int × Int) (h : l[k]? = some x) : worstTo l (k + 1) = maxP (worstTo l k) x := by
  show (match l[k]? with | some x => maxP (worstTo l k) x | none => worstTo l k) = _
  rw [h]

set_option maxRecDepth 100000 in
set_option maxHeartbeats 2000000 in
theorem worst_any (w : World) (v : Value) (l : List (Int × Int)) (h : RdL w v 2 encP l) :
    Calls Try.prog 26 #[v] w fun en w' => en = .returned (.agg #[.int .i64 (worstTo l l.length).1, .int .i64 (worstTo l l.length).2]) ∧ Below w.heap.size w w' := by
  obtain ⟨A, cap, rfl, l1, l2, hr⟩ := h
  have HR := Lib.hid hr
  clear hr
  go_enter Try.func26, Try.ntmps26
  go_wp2
  go_loopw [8] (fun i wr => ∃ k : Nat, k ≤ l.length ∧ i = .int .i64 k ∧ Blk wr w.heap.size 46 #[.int .i64 0, .int .i64 0] ∧ Blk wr (w.heap.size + 1) 46 #[.int .i64 (worstTo l k).1, .int .i64 (worstTo l k).2] ∧ Below w.heap.size w wr) (fun i _ => l.length - (intOf i).toNat)
  case atStart => exact ⟨0, by omega, rfl, (Blk.new' _ _ _ rfl).alloc _, Blk.new' _ _ _ (by simp), ((Below.refl _ _).alloc (Nat.le_refl _) _).alloc (by simp) _⟩
  case round =>
    obtain ⟨k, hk, rfl, q0, q1, hbel⟩ := hrel
    have hle := hbel.size
    have hls := q1.lt
    by_cases hlt : k < l.length
    · obtain ⟨bl, off, rfl, hbl, hc⟩ := HR.out (by omega)
      obtain ⟨x, hx⟩ := getElem?_lt hlt
      have c0 := (hbel.cell (p := ⟨bl, off + k * 2 + 0, none⟩) hbl).trans (hc k x hx 0 _ rfl)
      have c1 := (hbel.cell (p := ⟨bl, off + k * 2 + 1, none⟩) hbl).trans (hc k x hx 1 _ rfl)
      simp only [Nat.add_zero] at c0
      have d0 : wr.cell? ⟨w.heap.size + 1, 0, none⟩ = _ := q1.cell 0
      have d1 : wr.cell? ⟨w.heap.size + 1, 1, none⟩ = _ := q1.cell 1
      have g0 := q1.free 0
      have g1 := q1.free 1
      simp only [List.getElem?_toArray, List.getElem?_cons_zero, List.getElem?_cons_succ] at d0 d1
      have hws := worstTo_succ l k x hx
      obtain ⟨p, hp⟩ : ∃ p, p = worstTo l k := ⟨_, rfl⟩
      rw [← hp] at d0 d1 hws q1
      have HS := Lib.hid (And.intro hws (And.intro q0 (And.intro q1 hbel)))
      clear hc hx hws q0 q1 hbel hp
      go_wp2
      go_region
      go_wp2
      go_roundw
      case rel =>
        refine ⟨k + 1, by omega, by go_num, ?_, ?_, ?_⟩
        · exact (((HS.out.2.1.far (by simp) _).far (by simp) _).alloc _).drew
        · rw [HS.out.1]
          exact (((HS.out.2.2.1.set_ 0 _).set_ 1 _).alloc _).drew
        · exact (((HS.out.2.2.2.setCell (by simp) _).setCell (by simp) _).alloc (by simp [World.setCell]; omega) _).drew
      case measure => simp [intOf]; omega
    · obtain rfl : k = l.length := by omega
      have d0 : wr.cell? ⟨w.heap.size, 0, none⟩ = _ := q0.cell 0
      have d1 : wr.cell? ⟨w.heap.size, 1, none⟩ = _ := q0.cell 1
      have g0 := q0.free 0
      have g1 := q0.free 1
      have c0 : wr.cell? ⟨w.heap.size + 1, 0, none⟩ = _ := q1.cell 0
      have c1 : wr.cell? ⟨w.heap.size + 1, 1, none⟩ = _ := q1.cell 1
      simp only [List.getElem?_toArray, List.getElem?_cons_zero, List.getElem?_cons_succ] at d0 d1 c0 c1
      have HB := Lib.hid hbel
      clear q0 q1 hbel
      go_wp2
      refine bodyPost_ret (v := .agg #[.int .i64 (worstTo l l.length).1, .int .i64 (worstTo l l.length).2]) (by simp [results, Try.results26, go_sem, d0, d1]) rfl ⟨rfl, ?_⟩
      exact (HB.out.setCell (by simp) _).setCell (by simp) _

/-- what a literal lays reads as its list -/
theorem RdL.lit {α : Type} {enc : α → List Value} {sz : Nat} (hs : ∀ x, (enc x).length = sz) (w : World) (cs : Array Value) (t : TypeId) (l : List α) {g n : Nat} (hg : g = w.heap.size) (hn : n = l.length) (hcs : cs.toList = l.flatMap enc) (hl : l.length ≤ 140737488355328) :
    RdL (w.alloc (.cells cs t)) (.slice (some ⟨g, 0, none⟩) n n) sz enc l := by
  subst hg; subst hn
  refine ⟨_, _, rfl, Nat.le_refl _, hl, fun _ => ⟨w.heap.size, 0, rfl, by simp, fun i x hx j u hu => ?_⟩⟩
  rw [cell_of_row (w.alloc _) w.heap.size _ _ _ (0, 0) (heap_alloc_new w _)]
  have h := getElem?_flatMap enc sz hs l i x j u hx hu
  rw [← hcs] at h
  simpa using h

theorem samePass_true (w : World) (v1 v2 : Value) (a b : List (Int × Int)) (hab : a = b) (h1 : RdL w v1 2 encP a) (h2 : RdL w v2 2 encP b) :
    Calls Try.prog 22 #[v1, v2] w fun e w' => e = .returned (.bool true) ∧ Qt w w' :=
  (samePass_any w v1 v2 a b h1 h2).mono fun _ _ ⟨he, hq⟩ => ⟨by rw [he, hab]; simp, hq⟩
theorem worst_call (w : World) (v : Value) (l : List (Int × Int)) (p : Int × Int) (hp : p = worstTo l l.length) (h : RdL w v 2 encP l) :
    Calls Try.prog 26 #[v] w fun en w' => en = .returned (.agg #[.int .i64 p.1, .int .i64 p.2]) ∧ Below w.heap.size w w' := by subst hp; exact worst_any w v l h
theorem from_call (w : World) (vn ve : Value) (ns : List Int) (l : List Ev) (t a b : Int) (p : Int × Int) (hp : p = fromL ns t a b l) (hn : RdL w vn 1 encI ns) (he : RdL w ve 4 encE l) (hlen : l.length ≤ 60000) :
    Calls Try.prog 24 #[vn, .int .i64 t, .int .i64 a, .int .i64 b, ve] w (FromPost w p) := by subst hp; exact from_any w vn ve ns l t a b hn he hlen

def awE : List Ev := [⟨1, 0, false, 0⟩, ⟨1, 1, false, 0⟩, ⟨2, 1, false, 0⟩, ⟨2, 2, false, 0⟩, ⟨2, 0, false, 0⟩]
theorem awE_wf : ∀ e ∈ awE, wfE e := by
  intro e he
  simp only [awE, List.mem_cons, List.not_mem_nil, or_false] at he
  rcases he with rfl | rfl | rfl | rfl | rfl <;> (unfold wfE; decide)

set_option maxRecDepth 100000 in
set_option maxHeartbeats 2000000 in
theorem awake14 (w : World) : Calls Try.prog 20 #[] w fun e w' => e = .returned (.bool true) ∧ Below w.heap.size w w' := by
  go_enter Try.func20, Try.ntmps20
  go_wp2_with fail
  refine (bypassOf_any _ _ _ [0, 0, 1] awE (RdL.lit encI_len _ _ _ _ (by simp) rfl rfl (by simp)) ((RdL.lit encE_len _ _ _ awE rfl rfl rfl (by decide)).alloc _) awE_wf (by decide)).mono ?_
  rintro en w1 ⟨v1, rfl, hr1, hb1⟩
  have hpl : passL [0, 0, 1] awE = [(1, 1), (0, 0)] := by decide
  rw [hpl] at hr1
  have hbw : Below w.heap.size w w1 := (((Below.refl _ w).alloc (Nat.le_refl _) _).alloc (by simp) _).trans (hb1.mono (by simp; omega))
  have hre : RdL w1 (.slice (some ⟨w.heap.size, 0, none⟩) 5 5) 4 encE awE := ((RdL.lit encE_len _ _ _ awE rfl rfl rfl (by decide)).alloc _).below hb1 (by simp)
  obtain ⟨A1, c1, rfl, m1, m2, m3⟩ := hr1
  have HR1 : Hid (RdL w1 (.slice A1 2 c1) 2 encP [(1, 1), (0, 0)]) := Lib.hid ⟨A1, c1, rfl, m1, m2, m3⟩
  have HRE := Lib.hid hre
  have HB := Lib.hid hbw
  clear hb1 hre hbw hpl m1 m2 m3
  go_wp2_with fail
  refine (samePass_true _ _ _ [(1, 1), (0, 0)] [(1, 1), (0, 0)] rfl (HR1.out.alloc _) (RdL.lit encP_len _ _ _ _ rfl rfl rfl (by simp))).mono ?_
  rintro en w2 ⟨rfl, ⟨n2, rfl⟩⟩
  go_wp2_with fail
  refine (worst_call _ _ [(1, 1), (0, 0)] (1, 1) (by decide) ((HR1.out.alloc _).drewN _)).mono ?_
  rintro en w3 ⟨rfl, hb3⟩
  have hre3 : RdL w3 (.slice (some ⟨w.heap.size, 0, none⟩) 5 5) 4 encE awE := ((HRE.out.alloc _).drewN _).below hb3 (Nat.le_refl _)
  have hbw3 : Below w.heap.size w w3 := (below_drewN (HB.out.alloc HB.out.size _) n2).trans (hb3.mono (by have := HB.out.size; simp; omega))
  have HRE3 := Lib.hid hre3
  have HB3 := Lib.hid hbw3
  clear hb3 hre3 hbw3
  go_wp2_with fail
  refine (from_call _ _ _ [0, 0, 1] awE 0 2 9 (0, 1) (by decide) (RdL.lit encI_len _ _ _ _ rfl rfl rfl (by simp)) (HRE3.out.alloc _) (by decide)).mono ?_
  rintro en w4 ⟨rfl, hb4⟩
  have hbw4 : Below w.heap.size w w4 := (HB3.out.alloc HB3.out.size _).trans (hb4.mono (by have := HB3.out.size; simp; omega))
  have HB4 := Lib.hid hbw4
  clear hb4 hbw4
  go_wp2
  go_ret
  exact ⟨rfl, HB4.out⟩
end Go.Proofs.Ytfbiejkdeadheaa
