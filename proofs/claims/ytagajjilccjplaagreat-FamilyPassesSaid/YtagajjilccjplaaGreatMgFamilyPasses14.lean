/- Joined: Byp1, Byp2, Byp3, Tal1, Tal2, Byp4. -/
import Derived.Test.YtagajjilccjplaaGreatRows
import Derived.RegionCalls
import Derived.Deep.RegionWith
import Derived.StillTailTactics
import Derived.Test.YtagajjilccjplaaGreatMgFamilyPasses13
section
set_option linter.unusedVariables false
set_option linter.unusedSimpArgs false
/- Layers 13, 14: the node of a thread; who passes whom, as plain data. No program in sight. -/
namespace Go.Proofs.YtagajjilccjplaaGreat
open Go.RowKit

def nodeOf (ns : List Int) (t : Int) : Int := if t < 0 ∨ (ns.length : Int) ≤ t then -1 else ns.getD t.toNat 0
def cntE (ns : List Int) (t : Int) (p : Int × Int) (e : Ev) : Int × Int :=
  if e.kind = 2 ∧ ¬ e.thread = t then (if nodeOf ns e.thread = nodeOf ns t then (p.1 + 1, p.2) else (p.1, p.2 + 1)) else p
def fromTo (ns : List Int) (t a b : Int) (l : List Ev) : Nat → Int × Int
  | 0 => (0, 0)
  | k + 1 => match l[k]? with
    | some e => if a < k ∧ (k : Int) < b then cntE ns t (fromTo ns t a b l k) e else fromTo ns t a b l k
    | none => fromTo ns t a b l k
def fromL (ns : List Int) (t a b : Int) (l : List Ev) : Int × Int := fromTo ns t a b l l.length

theorem fromTo_succ (ns : List Int) (t a b : Int) (l : List Ev) (k : Nat) (e : Ev) (h : l[k]? = some e) :
    fromTo ns t a b l (k + 1) = if a < k ∧ (k : Int) < b then cntE ns t (fromTo ns t a b l k) e else fromTo ns t a b l k := by
  show (match l[k]? with | some e => if a < k ∧ (k : Int) < b then cntE ns t (fromTo ns t a b l k) e else fromTo ns t a b l k | none => fromTo ns t a b l k) = _
  rw [h]
theorem cntE_le (ns : List Int) (t : Int) (p : Int × Int) (e : Ev) (k : Int) (h : 0 ≤ p.1 ∧ 0 ≤ p.2 ∧ p.1 ≤ k ∧ p.2 ≤ k) : 0 ≤ (cntE ns t p e).1 ∧ 0 ≤ (cntE ns t p e).2 ∧ (cntE ns t p e).1 ≤ k + 1 ∧ (cntE ns t p e).2 ≤ k + 1 := by
  unfold cntE
  split
  · split <;> (simp only; omega)
  · omega
theorem fromTo_le (ns : List Int) (t a b : Int) (l : List Ev) : ∀ k : Nat, 0 ≤ (fromTo ns t a b l k).1 ∧ 0 ≤ (fromTo ns t a b l k).2 ∧ (fromTo ns t a b l k).1 ≤ k ∧ (fromTo ns t a b l k).2 ≤ k
  | 0 => by simp [fromTo]
  | k + 1 => by
    have h := fromTo_le ns t a b l k
    have hc := fun e => cntE_le ns t _ e k h
    unfold fromTo
    split
    · rename_i e he
      split
      · have := hc e; omega
      · omega
    · omega
end Go.Proofs.YtagajjilccjplaaGreat
end
section
set_option linter.unusedVariables false
set_option linter.unusedSimpArgs false
/- Layers 13, 14: tenure.Node, the document's Node; bypass.From and the document's. -/
namespace Go.Proofs.YtagajjilccjplaaGreat
open Go.RowKit

theorem nodeB_any (w : World) (v : Value) (ns : List Int) (t : Int) (h : RdL w v 1 encI ns) :
    Calls Tryz.prog 61 #[v, .int .i64 t] w fun e w' => e = .returned (.int .i64 (nodeOf ns t)) ∧ w = w' := by
  obtain ⟨A, cap, rfl, l1, l2, hr⟩ := h
  by_cases h0 : t < 0
  · go_enter Tryz.func61, Tryz.ntmps61
    go_wp2
    go_ret
    exact ⟨ret_int (by unfold nodeOf; rw [if_pos (by omega)]), rfl⟩
  · by_cases h1 : (ns.length : Int) ≤ t
    · go_enter Tryz.func61, Tryz.ntmps61
      go_wp2
      go_ret
      exact ⟨ret_int (by unfold nodeOf; rw [if_pos (by omega)]), rfl⟩
    · have hp : nodeOf ns t = ns.getD t.toNat 0 := by unfold nodeOf; rw [if_neg (by omega)]
      obtain ⟨b, off, rfl, _, hc⟩ := hr (by omega)
      obtain ⟨x, hx⟩ := getElem?_lt (show t.toNat < ns.length by omega)
      have c0 := hc t.toNat x hx 0 _ rfl
      simp only [Nat.mul_one, Nat.add_zero] at c0
      have hx2 : nodeOf ns t = x := by rw [hp, List.getD_eq_getElem?_getD, hx]; rfl
      have HX := Lib.hid hx2
      clear hr hc hx hp hx2
      go_enter Tryz.func61, Tryz.ntmps61
      go_wp2
      go_ret
      exact ⟨ret_int HX.out.symm, rfl⟩

def cntP (ns : List Int) (x own : Int) (p : Int × Int) : Int × Int := if nodeOf ns x = own then (p.1 + 1, p.2) else (p.1, p.2 + 1)
/-- the closure: one more, of the own node or of another -/
theorem count_any (w : World) (vn : Value) (ns : List Int) (x own : Int) (B0 B2 B3 : Nat) (p : Int × Int) (hn : RdL w vn 1 encI ns) (h0 : Blk w B0 28 #[vn]) (h3 : Blk w B3 3 #[.int .i64 own])
    (h2 : Blk w B2 48 #[.int .i64 p.1, .int .i64 p.2]) (hp : 0 ≤ p.1 ∧ 0 ≤ p.2 ∧ p.1 ≤ 1000000 ∧ p.2 ≤ 1000000) :
    Calls Tryz.prog 62 #[.int .i64 x, .pointer (some ⟨B0, 0, none⟩), .pointer (some ⟨B3, 0, none⟩), .pointer (some ⟨B2, 0, none⟩)] w fun e w' => e = .returned (.tuple #[]) ∧
      Blk w' B2 48 #[.int .i64 (cntP ns x own p).1, .int .i64 (cntP ns x own p).2] ∧ w.grownBy w' (some B2) := by
  obtain ⟨A, cap, rfl, l1, l2, hr⟩ := hn
  have HN : Hid (RdL w (.slice A ns.length cap) 1 encI ns) := Lib.hid ⟨A, cap, rfl, l1, l2, hr⟩
  have c0 : w.cell? ⟨B0, 0, none⟩ = _ := h0.cell 0
  have c3 : w.cell? ⟨B3, 0, none⟩ = _ := h3.cell 0
  have c2 : w.cell? ⟨B2, 0, none⟩ = _ := h2.cell 0
  have c2' : w.cell? ⟨B2, 1, none⟩ = _ := h2.cell 1
  have f2 := h2.free 0
  have f2' := h2.free 1
  simp only [List.getElem?_toArray, List.getElem?_cons_zero, List.getElem?_cons_succ] at c0 c3 c2 c2'
  obtain ⟨a1, a2, a3, a4⟩ := hp
  have H2 := Lib.hid h2
  obtain ⟨y, hy⟩ : ∃ y, y = nodeOf ns x := ⟨_, rfl⟩
  have HY := Lib.hid hy
  clear hr h0 h3 h2 l1 l2
  by_cases hyo : y = own
  · have hb : (y == own) = true := by rw [beq_iff_eq]; exact hyo
    have hE : cntP ns x own p = (p.1 + 1, p.2) := by unfold cntP; rw [if_pos (by rw [← HY.out, hyo])]
    have HE := Lib.hid hE
    clear hE
    have NC : ∀ n, Calls Tryz.prog 61 #[.slice A ns.length cap, .int .i64 x] (w.drewN n) fun e w' => e = .returned (.int .i64 y) ∧ w.drewN n = w' := fun n => by rw [HY.out]; exact nodeB_any _ _ ns x (HN.out.drewN n)
    have HC := Lib.hid NC
    clear NC hyo hy
    go_enter Tryz.func62, Tryz.ntmps62
    go_wp2
    go_quiet ((go_at_call 61; exact quiet_left (HC.out _)))
    go_wp2
    go_end0
    refine ⟨rfl, ?_, grown_set (grown_drewN (grown_refl _ _) _) _ _⟩
    rw [HE.out]
    exact (H2.out.drewN _).set_ 0 _
  · have hb : (y == own) = false := by rw [beq_eq_false_iff_ne]; exact hyo
    have hE : cntP ns x own p = (p.1, p.2 + 1) := by unfold cntP; rw [if_neg (by rw [← HY.out]; exact hyo)]
    have HE := Lib.hid hE
    clear hE
    have NC : ∀ n, Calls Tryz.prog 61 #[.slice A ns.length cap, .int .i64 x] (w.drewN n) fun e w' => e = .returned (.int .i64 y) ∧ w.drewN n = w' := fun n => by rw [HY.out]; exact nodeB_any _ _ ns x (HN.out.drewN n)
    have HC := Lib.hid NC
    clear NC hyo hy
    go_enter Tryz.func62, Tryz.ntmps62
    go_wp2
    go_quiet ((go_at_call 61; exact quiet_left (HC.out _)))
    go_wp2
    go_end0
    refine ⟨rfl, ?_, grown_set (grown_drewN (grown_refl _ _) _) _ _⟩
    rw [HE.out]
    exact (H2.out.drewN _).set_ 1 _
end Go.Proofs.YtagajjilccjplaaGreat
end
section
set_option linter.unusedVariables false
set_option linter.unusedSimpArgs false
/- Layer 14: bypass.From and the document's From. -/
namespace Go.Proofs.YtagajjilccjplaaGreat
open Go.RowKit

def FromPost (w : World) (p : Int × Int) (e : Ending) (w' : World) : Prop := e = .returned (.agg #[.int .i64 p.1, .int .i64 p.2]) ∧ Below w.heap.size w w'

set_option maxRecDepth 100000 in
set_option maxHeartbeats 1000000 in
theorem from_any (w : World) (vn ve : Value) (ns : List Int) (l : List Ev) (t a b : Int) (hn : RdL w vn 1 encI ns) (he : RdL w ve 4 encE l) (hlen : l.length ≤ 60000) :
    Calls Tryz.prog 37 #[vn, .int .i64 t, .int .i64 a, .int .i64 b, ve] w (FromPost w (fromL ns t a b l)) := by
  obtain ⟨An, cn, rfl, n1, n2, nr⟩ := hn
  have HN : Hid (RdL w (.slice An ns.length cn) 1 encI ns) := Lib.hid ⟨An, cn, rfl, n1, n2, nr⟩
  obtain ⟨A, cap, rfl, l1, l2, hr⟩ := he
  have HR := Lib.hid hr
  have hmf : ∀ (fn : Fn) (first cap : Array Value) (w : World), (Instr.makeFunc fn first cap).run Tryz.prog w = .ok (.func fn first cap) w := fun _ _ _ _ => rfl
  clear nr hr n1 n2
  obtain ⟨own, ho⟩ : ∃ own, own = nodeOf ns t := ⟨_, rfl⟩
  have NC : ∀ W, RdL W (.slice An ns.length cn) 1 encI ns → Calls Tryz.prog 61 #[.slice An ns.length cn, .int .i64 t] W fun e w' => e = .returned (.int .i64 own) ∧ W = w' := fun W h => by rw [ho]; exact nodeB_any _ _ ns t h
  have HC := Lib.hid NC
  have HO := Lib.hid ho
  clear NC ho
  go_enter Tryz.func37, Tryz.ntmps37
  go_wp2_with fail
  refine (HC.out _ (HN.out.below (((((Below.refl w.heap.size w).alloc (Nat.le_refl _) _).alloc (by simp) _).alloc (by simp; omega) _)) (Nat.le_refl _))).mono ?_
  rintro e w' ⟨rfl, rfl⟩
  go_wp2_with fail
  go_loopw [22] (fun i wr => ∃ k : Nat, k ≤ l.length ∧ i = .int .i64 k ∧ Blk wr w.heap.size 28 #[.slice An ns.length cn] ∧ Blk wr (w.heap.size + 1) 48 #[.int .i64 0, .int .i64 0] ∧
      Blk wr (w.heap.size + 1 + 1) 48 #[.int .i64 (fromTo ns t a b l k).1, .int .i64 (fromTo ns t a b l k).2] ∧ Blk wr (w.heap.size + 1 + 1 + 1) 3 #[.int .i64 own] ∧ Below w.heap.size w wr) (fun i _ => l.length - (intOf i).toNat)
  case atStart =>
    refine ⟨0, by omega, rfl, ?_, ?_, ?_, Blk.new' _ _ _ (by simp), ?_⟩
    · exact (((Blk.new' _ _ _ rfl).alloc _).alloc _).alloc _
    · exact ((Blk.new' _ _ _ (by simp)).alloc _).alloc _
    · exact (Blk.new' _ _ _ (by simp)).alloc _
    · exact ((((Below.refl _ _).alloc (Nat.le_refl _) _).alloc (by simp) _).alloc (by simp; omega) _).alloc (by simp; omega) _
  case round =>
    obtain ⟨k, hk, rfl, q0, q1, q2, q3, hbel⟩ := hrel
    have hle := hbel.size
    have hls := q3.lt
    by_cases hlt : k < l.length
    · obtain ⟨bl, off, rfl, hbl, hc⟩ := HR.out (by omega)
      obtain ⟨e, he⟩ := getElem?_lt hlt
      have c0 := (hbel.cell (p := ⟨bl, off + k * 4 + 0, none⟩) hbl).trans (hc k e he 0 _ rfl)
      have c1 := (hbel.cell (p := ⟨bl, off + k * 4 + 1, none⟩) hbl).trans (hc k e he 1 _ rfl)
      have c2 := (hbel.cell (p := ⟨bl, off + k * 4 + 2, none⟩) hbl).trans (hc k e he 2 _ rfl)
      have c3 := (hbel.cell (p := ⟨bl, off + k * 4 + 3, none⟩) hbl).trans (hc k e he 3 _ rfl)
      simp only [Nat.add_zero] at c0
      have hs := fromTo_succ ns t a b l k e he
      have hfl := fromTo_le ns t a b l k
      obtain ⟨p, hp⟩ : ∃ p, p = fromTo ns t a b l k := ⟨_, rfl⟩
      rw [← hp] at q2 hs hfl
      have HS := Lib.hid hs
      have HB := Lib.hid (And.intro q0 (And.intro q1 (And.intro q2 (And.intro q3 hbel))))
      have HK := Lib.hid hfl
      clear hc he hs hp q0 q1 q2 q3 hbel hfl
      by_cases hcnt : e.kind = 2 ∧ ¬ e.thread = t ∧ a < (k : Int) ∧ (k : Int) < b
      · obtain ⟨h1, h2, h3, h4⟩ := hcnt
        have b1 : (e.kind == 2) = true := by rw [h1]; rfl
        have b2 : (e.thread != t) = true := by rw [bne_iff_ne]; exact h2
        have hcs : fromTo ns t a b l (k + 1) = cntP ns e.thread own p := by
          rw [HS.out, if_pos ⟨h3, h4⟩]; unfold cntE cntP; rw [if_pos ⟨h1, h2⟩, HO.out]
        have HCS := Lib.hid hcs
        clear h1 h2 hcs
        go_wp2_with fail
        refine (count_any _ (.slice An ns.length cn) ns e.thread own w.heap.size (w.heap.size + 1 + 1) (w.heap.size + 1 + 1 + 1) p (HN.out.below (HB.out.2.2.2.2.alloc hle _) (Nat.le_refl _)) (HB.out.1.alloc _) (HB.out.2.2.2.1.alloc _) (HB.out.2.2.1.alloc _) (by have := HK.out; omega)).mono ?_
        rintro en w2 ⟨rfl, hb2, hg2⟩
        have hfin : Blk w2 w.heap.size 28 #[.slice An ns.length cn] ∧ Blk w2 (w.heap.size + 1) 48 #[.int .i64 0, .int .i64 0] ∧
            Blk w2 (w.heap.size + 1 + 1) 48 #[.int .i64 (fromTo ns t a b l (k + 1)).1, .int .i64 (fromTo ns t a b l (k + 1)).2] ∧ Blk w2 (w.heap.size + 1 + 1 + 1) 3 #[.int .i64 own] ∧ Below w.heap.size w w2 :=
          ⟨(HB.out.1.alloc _).grown hg2 (by simp; omega), (HB.out.2.1.alloc _).grown hg2 (by simp), by rw [HCS.out]; exact hb2, (HB.out.2.2.2.1.alloc _).grown hg2 (by simp), (HB.out.2.2.2.2.alloc hle _).grown hg2 (by simp; omega) (fun j hj => by cases hj; omega)⟩
        have HF := Lib.hid hfin
        clear hfin hb2 hg2
        go_wp2
        go_roundw
        case rel => exact ⟨k + 1, by omega, by go_num, HF.out⟩
        case measure => simp [intOf]; omega
      · by_cases h1 : e.kind = 2
        · have b1 : (e.kind == 2) = true := by rw [h1]; rfl
          by_cases h2 : e.thread = t
          · have b2 : (e.thread != t) = false := by rw [bne_eq_false_iff_eq]; exact h2
            have hcs : fromTo ns t a b l (k + 1) = p := by
              rw [HS.out]; split
              · unfold cntE; rw [if_neg (by rintro ⟨_, h⟩; exact h h2)]
              · rfl
            clear h1 h2 hcnt
            have HCS := Lib.hid hcs
            clear hcs
            go_wp2
            go_roundw
            case rel => exact ⟨k + 1, by omega, by go_num, HB.out.1.alloc _, HB.out.2.1.alloc _, by rw [HCS.out]; exact HB.out.2.2.1.alloc _, HB.out.2.2.2.1.alloc _, HB.out.2.2.2.2.alloc hle _⟩
            case measure => simp [intOf]; omega
          · have b2 : (e.thread != t) = true := by rw [bne_iff_ne]; exact h2
            by_cases h3 : a < (k : Int)
            · have h4 : ¬ (k : Int) < b := fun h4 => hcnt ⟨h1, h2, h3, h4⟩
              have hcs : fromTo ns t a b l (k + 1) = p := by rw [HS.out, if_neg (by omega)]
              clear h1 h2 hcnt
              have HCS := Lib.hid hcs
              clear hcs
              go_wp2
              go_roundw
              case rel => exact ⟨k + 1, by omega, by go_num, HB.out.1.alloc _, HB.out.2.1.alloc _, by rw [HCS.out]; exact HB.out.2.2.1.alloc _, HB.out.2.2.2.1.alloc _, HB.out.2.2.2.2.alloc hle _⟩
              case measure => simp [intOf]; omega
            · have hcs : fromTo ns t a b l (k + 1) = p := by rw [HS.out, if_neg (by omega)]
              clear h1 h2 hcnt
              have HCS := Lib.hid hcs
              clear hcs
              go_wp2
              go_roundw
              case rel => exact ⟨k + 1, by omega, by go_num, HB.out.1.alloc _, HB.out.2.1.alloc _, by rw [HCS.out]; exact HB.out.2.2.1.alloc _, HB.out.2.2.2.1.alloc _, HB.out.2.2.2.2.alloc hle _⟩
              case measure => simp [intOf]; omega
        · have b1 : (e.kind == 2) = false := by simpa using h1
          have hcs : fromTo ns t a b l (k + 1) = p := by
            rw [HS.out]; split
            · unfold cntE; rw [if_neg (by rintro ⟨h, _⟩; exact h1 h)]
            · rfl
          clear h1 hcnt
          have HCS := Lib.hid hcs
          clear hcs
          go_wp2
          go_roundw
          case rel => exact ⟨k + 1, by omega, by go_num, HB.out.1.alloc _, HB.out.2.1.alloc _, by rw [HCS.out]; exact HB.out.2.2.1.alloc _, HB.out.2.2.2.1.alloc _, HB.out.2.2.2.2.alloc hle _⟩
          case measure => simp [intOf]; omega
    · obtain rfl : k = l.length := by omega
      have d0 : wr.cell? ⟨w.heap.size + 1, 0, none⟩ = _ := q1.cell 0
      have d1 : wr.cell? ⟨w.heap.size + 1, 1, none⟩ = _ := q1.cell 1
      have g0 := q1.free 0
      have g1 := q1.free 1
      have c0 : wr.cell? ⟨w.heap.size + 1 + 1, 0, none⟩ = _ := q2.cell 0
      have c1 : wr.cell? ⟨w.heap.size + 1 + 1, 1, none⟩ = _ := q2.cell 1
      simp only [List.getElem?_toArray, List.getElem?_cons_zero, List.getElem?_cons_succ] at d0 d1 c0 c1
      have HB := Lib.hid hbel
      clear q0 q1 q2 q3 hbel
      go_wp2
      refine bodyPost_ret (v := .agg #[.int .i64 (fromTo ns t a b l l.length).1, .int .i64 (fromTo ns t a b l l.length).2]) (by simp [results, Tryz.results37, go_sem, d0, d1]) rfl ⟨rfl, ?_⟩
      exact (HB.out.setCell (by simp) _).setCell (by simp) _
end Go.Proofs.YtagajjilccjplaaGreat
end
section
set_option linter.unusedVariables false
set_option linter.unusedSimpArgs false
/- Layer 12: what tally.note does with a stay that lies in a row of the caller's own. -/
namespace Go.Proofs.YtagajjilccjplaaGreat
open Go.RowKit Go.Maps

theorem own_cell {w : World} {base : Nat} {e : TypeId} {g cap n : Nat} {out : List Stay} {k : Nat} {s : Stay} (hown : w.ownsRow base e 7 (.slice (some ⟨g, 0, none⟩) n cap) n (out.flatMap encS)) (hn : n = out.length) (hs : out[k]? = some s) (j : Nat) (u : Value) (hu : (encS s)[j]? = some u) :
    w.cell? ⟨g, k * 7 + j, none⟩ = some u := by
  have hk : k < out.length := (List.getElem?_eq_some_iff.1 hs).1
  have hj : j < 7 := by have := (List.getElem?_eq_some_iff.1 hu).1; rw [encS_len] at this; exact this
  rw [hown.cellAt _ (by rw [hn]; omega)]
  exact getElem?_flatMap encS 7 encS_len out k s j u hs hu
theorem own_free {w : World} {base : Nat} {e : TypeId} {g cap n : Nat} {xs : List Value} (hown : w.ownsRow base e 7 (.slice (some ⟨g, 0, none⟩) n cap) n xs) (j : Nat) : w.frozen? ⟨g, j, none⟩ = false := hown.frozenAt j
theorem own_lt {w : World} {base : Nat} {e : TypeId} {g cap n sz : Nat} {xs : List Value} (hown : w.ownsRow base e sz (.slice (some ⟨g, 0, none⟩) n cap) n xs) : base ≤ g ∧ g < w.heap.size := hown.lt g rfl

def NotePost (w : World) (base g cap : Nat) (out : List Stay) (k : Nat) (s : Stay) (t : Int) (e : Ev) (en : Ending) (w' : World) : Prop :=
  en = .returned (.bool (noteOk s e)) ∧ w'.ownsRow base 85 7 (.slice (some ⟨g, 0, none⟩) out.length cap) out.length ((out.set k (noteS s t e)).flatMap encS) ∧ w.grownBy w' (some g)

theorem own_setT {w : World} {base : Nat} {e : TypeId} {g cap n : Nat} {out : List Stay} {k : Nat} {s s' : Stay} {j : Nat} {u : Value} (hown : w.ownsRow base e 7 (.slice (some ⟨g, 0, none⟩) n cap) n (out.flatMap encS))
    (hs : out[k]? = some s) (hj : j < 7) (he : (encS s).set j u = encS s') : (w.setCell ⟨g, k * 7 + j, none⟩ u).ownsRow base e 7 (.slice (some ⟨g, 0, none⟩) n cap) n ((out.set k s').flatMap encS) := by
  have h := hown.stored (k * 7 + j) u
  rw [flatMap_set encS 7 encS_len out k s s' j u hs hj he] at h
  exact h.1
theorem own_set2 {w : World} {base : Nat} {e : TypeId} {g cap n : Nat} {out : List Stay} {k : Nat} {s s1 s2 : Stay} {j j' : Nat} {u u' : Value} (hown : w.ownsRow base e 7 (.slice (some ⟨g, 0, none⟩) n cap) n (out.flatMap encS))
    (hs : out[k]? = some s) (hj : j < 7) (he : (encS s).set j u = encS s1) (hj' : j' < 7) (he' : (encS s1).set j' u' = encS s2) :
    ((w.setCell ⟨g, k * 7 + j, none⟩ u).setCell ⟨g, k * 7 + j', none⟩ u').ownsRow base e 7 (.slice (some ⟨g, 0, none⟩) n cap) n ((out.set k s2).flatMap encS) := by
  have hk : k < out.length := (List.getElem?_eq_some_iff.1 hs).1
  have h := own_setT (own_setT hown hs hj he) (k := k) (s := s1) (by simp [hk]) hj' he'
  simpa using h
theorem set_same {out : List Stay} {k : Nat} {s : Stay} (hs : out[k]? = some s) : out.set k s = out := by
  obtain ⟨hk, rfl⟩ := List.getElem?_eq_some_iff.1 hs
  simp

set_option maxHeartbeats 1000000 in
theorem noteT_any (w : World) (base g cap : Nat) (out : List Stay) (k : Nat) (s : Stay) (t : Int) (e : Ev) (hown : w.ownsRow base 85 7 (.slice (some ⟨g, 0, none⟩) out.length cap) out.length (out.flatMap encS)) (hs : out[k]? = some s) :
    Calls Tryz.prog 60 #[.pointer (some ⟨g, k * 7, none⟩), .int .i64 t, .agg #[.int .i64 e.kind, .int .i64 e.thread, .bool e.read, .int .i64 e.count]] w (NotePost w base g cap out k s t e) := by
  have c3 := own_cell hown rfl hs 3 _ rfl
  have c4 := own_cell hown rfl hs 4 _ rfl
  have c5 := own_cell hown rfl hs 5 _ rfl
  have c6 := own_cell hown rfl hs 6 _ rfl
  have f3 := own_free hown (k * 7 + 3)
  have f4 := own_free hown (k * 7 + 4)
  have f5 := own_free hown (k * 7 + 5)
  have f6 := own_free hown (k * 7 + 6)
  have hg := (own_lt hown).2
  have HO := Lib.hid hown
  have HS := Lib.hid hs
  clear hown hs
  have hk2 : e.kind = 2 → (e.kind == 2) = true ∧ (e.kind == 3) = false ∧ (e.kind == 4) = false := fun h => by rw [h]; decide
  have hk3 : e.kind = 3 → (e.kind == 2) = false ∧ (e.kind == 3) = true ∧ (e.kind == 4) = false := fun h => by rw [h]; decide
  have hk4 : e.kind = 4 → (e.kind == 2) = false ∧ (e.kind == 3) = false ∧ (e.kind == 4) = true := fun h => by rw [h]; decide
  have hk5 : ¬ e.kind = 2 → (e.kind == 2) = false := fun h => by simpa using h
  have hk6 : ¬ e.kind = 3 → (e.kind == 3) = false := fun h => by simpa using h
  have hk7 : ¬ e.kind = 4 → (e.kind == 4) = false := fun h => by simpa using h
  by_cases k2 : e.kind = 2
  · obtain ⟨b2, b3, b4⟩ := hk2 k2
    by_cases hse : s.enter < 0
    · have hr : Ending.returned (.bool true) = .returned (.bool (noteOk s e)) ∧ noteS s t e = { s with enter := t, count := e.count } := ⟨ret_bool (Eq.symm (by unfold noteOk; exact decide_eq_true (by omega))), by unfold noteS; rw [if_pos (by omega)]⟩
      have HR := Lib.hid hr
      clear hr hk2 hk3 hk4 hk5 hk6 hk7 k2
      go_enter Tryz.func60, Tryz.ntmps60
      go_wp2
      go_region
      all_goals go_wp2
      all_goals go_ret
      all_goals refine ⟨HR.out.1, ?_, ?_⟩
      · rw [HR.out.2]
        exact ((own_set2 (u := .int .i64 t) (u' := .int .i64 e.count) HO.out HS.out (j := 3) (s1 := { s with enter := t }) (s2 := { s with enter := t, count := e.count }) (by omega) rfl (j' := 6) (by omega) rfl).alloc _)
      · exact grown_drewN (grown_alloc (grown_set (grown_set (grown_refl _ _) _ _) _ _) _) 1
    · have hr : Ending.returned (.bool false) = .returned (.bool (noteOk s e)) ∧ noteS s t e = s := ⟨ret_bool (Eq.symm (by unfold noteOk; exact decide_eq_false (by omega))), by unfold noteS; rw [if_neg (by omega), if_neg (by omega), if_neg (by omega)]⟩
      have HR := Lib.hid hr
      clear hr hk2 hk3 hk4 hk5 hk6 hk7 k2
      go_enter Tryz.func60, Tryz.ntmps60
      go_wp2
      go_ret
      refine ⟨HR.out.1, ?_, grown_alloc (grown_refl _ _) _⟩
      rw [HR.out.2, set_same HS.out]
      exact HO.out.alloc _
  · by_cases k3 : e.kind = 3
    · obtain ⟨b2, b3, b4⟩ := hk3 k3
      by_cases hse : 0 ≤ s.enter
      · by_cases hsx : s.exit < 0
        · have hr : Ending.returned (.bool true) = .returned (.bool (noteOk s e)) ∧ noteS s t e = { s with exit := t } := ⟨ret_bool (Eq.symm (by unfold noteOk; exact decide_eq_true (by omega))), by unfold noteS; rw [if_neg (by omega), if_pos (by omega)]⟩
          have HR := Lib.hid hr
          clear hr hk2 hk3 hk4 hk5 hk6 hk7 k2 k3
          go_enter Tryz.func60, Tryz.ntmps60
          go_wp2
          go_ret
          refine ⟨HR.out.1, ?_, ?_⟩
          · rw [HR.out.2]
            exact ((own_setT (u := .int .i64 t) HO.out HS.out (j := 4) (s' := { s with exit := t }) (by omega) rfl).alloc _)
          · exact grown_alloc (grown_set (grown_refl _ _) _ _) _
        · have hr : Ending.returned (.bool false) = .returned (.bool (noteOk s e)) ∧ noteS s t e = s := ⟨ret_bool (Eq.symm (by unfold noteOk; exact decide_eq_false (by omega))), by unfold noteS; rw [if_neg (by omega), if_neg (by omega), if_neg (by omega)]⟩
          have HR := Lib.hid hr
          clear hr hk2 hk3 hk4 hk5 hk6 hk7 k2 k3
          go_enter Tryz.func60, Tryz.ntmps60
          go_wp2
          go_ret
          refine ⟨HR.out.1, ?_, grown_alloc (grown_refl _ _) _⟩
          rw [HR.out.2, set_same HS.out]
          exact HO.out.alloc _
      · have hr : Ending.returned (.bool false) = .returned (.bool (noteOk s e)) ∧ noteS s t e = s := ⟨ret_bool (Eq.symm (by unfold noteOk; exact decide_eq_false (by omega))), by unfold noteS; rw [if_neg (by omega), if_neg (by omega), if_neg (by omega)]⟩
        have HR := Lib.hid hr
        clear hr hk2 hk3 hk4 hk5 hk6 hk7 k2 k3
        go_enter Tryz.func60, Tryz.ntmps60
        go_wp2
        go_ret
        refine ⟨HR.out.1, ?_, grown_alloc (grown_refl _ _) _⟩
        rw [HR.out.2, set_same HS.out]
        exact HO.out.alloc _
    · by_cases k4 : e.kind = 4
      · obtain ⟨b2, b3, b4⟩ := hk4 k4
        by_cases hse : 0 ≤ s.exit
        · have hr : Ending.returned (.bool true) = .returned (.bool (noteOk s e)) ∧ noteS s t e = { s with rest := t } := ⟨ret_bool (Eq.symm (by unfold noteOk; exact decide_eq_true (by omega))), by unfold noteS; rw [if_neg (by omega), if_neg (by omega), if_pos (by omega)]⟩
          have HR := Lib.hid hr
          clear hr hk2 hk3 hk4 hk5 hk6 hk7 k2 k3 k4
          go_enter Tryz.func60, Tryz.ntmps60
          go_wp2
          go_ret
          refine ⟨HR.out.1, ?_, ?_⟩
          · rw [HR.out.2]
            exact ((own_setT (u := .int .i64 t) HO.out HS.out (j := 5) (s' := { s with rest := t }) (by omega) rfl).alloc _)
          · exact grown_alloc (grown_set (grown_refl _ _) _ _) _
        · have hr : Ending.returned (.bool false) = .returned (.bool (noteOk s e)) ∧ noteS s t e = s := ⟨ret_bool (Eq.symm (by unfold noteOk; exact decide_eq_false (by omega))), by unfold noteS; rw [if_neg (by omega), if_neg (by omega), if_neg (by omega)]⟩
          have HR := Lib.hid hr
          clear hr hk2 hk3 hk4 hk5 hk6 hk7 k2 k3 k4
          go_enter Tryz.func60, Tryz.ntmps60
          go_wp2
          go_ret
          refine ⟨HR.out.1, ?_, grown_alloc (grown_refl _ _) _⟩
          rw [HR.out.2, set_same HS.out]
          exact HO.out.alloc _
      · have hr : Ending.returned (.bool false) = .returned (.bool (noteOk s e)) ∧ noteS s t e = s := ⟨ret_bool (Eq.symm (by unfold noteOk; exact decide_eq_false (by omega))), by unfold noteS; rw [if_neg (by omega), if_neg (by omega), if_neg (by omega)]⟩
        have b2 := hk5 k2
        have b3 := hk6 k3
        have b4 := hk7 k4
        have HR := Lib.hid hr
        clear hr hk2 hk3 hk4 hk5 hk6 hk7 k2 k3 k4
        go_enter Tryz.func60, Tryz.ntmps60
        go_wp2
        go_ret
        refine ⟨HR.out.1, ?_, grown_alloc (grown_refl _ _) _⟩
        rw [HR.out.2, set_same HS.out]
        exact HO.out.alloc _
end Go.Proofs.YtagajjilccjplaaGreat
end
section
set_option linter.unusedVariables false
set_option linter.unusedSimpArgs false
/- Layer 12: what tally.Of hands back. -/
namespace Go.Proofs.YtagajjilccjplaaGreat
open Go.RowKit Go.Maps

theorem Tryz.infoStay : (Tryz.prog.info? 85).map (fun i => (i.zero, i.size, i.bytes)) = some (some (.agg #[.int .i64 0, .bool false, .int .i64 0, .int .i64 0, .int .i64 0, .int .i64 0, .int .i64 0]), 7, 56) := by kernel_rfl
theorem intK : Keyed Tryz.prog 3 := int_keyed Tryz.underlying3
theorem zeroInt (w : World) : (zeroValue 3).run Tryz.prog w = .ok (.int .i64 0) w := by kernel_rfl

def wfE (e : Ev) : Prop := (Lit.int .i64 e.thread).wf = true

theorem tallyTo_len (l : List Ev) : ∀ k, (tallyTo l k).length ≤ k
  | 0 => by simp [tallyTo]
  | k + 1 => by
    have h := tallyTo_len l k
    unfold tallyTo
    split
    · unfold tstep
      split
      · split
        · simp; omega
        · omega
      · split
        · simp; omega
        · omega
    · omega
theorem tallyTo_succ (l : List Ev) (k : Nat) (e : Ev) (h : l[k]? = some e) : tallyTo l (k + 1) = tstep (tallyTo l k) k e := by
  show (match l[k]? with | some e => tstep (tallyTo l k) k e | none => tallyTo l k) = _
  rw [h]

theorem stay_cells (w : World) (s : Stay) {g : Nat} (hg : g = w.heap.size) : ∀ j u, (encS s)[j]? = some u → (w.alloc (.cells #[.int .i64 s.thread, .bool s.read, .int .i64 s.ask, .int .i64 s.enter, .int .i64 s.exit, .int .i64 s.rest, .int .i64 s.count] 85)).cell? ((⟨g, 0, none⟩ : Addr).add j) = some u := by
  intro j u hu
  subst hg
  have hadd : (⟨w.heap.size, 0, none⟩ : Addr).add j = ⟨w.heap.size, j, none⟩ := by unfold Addr.add; split <;> simp_all
  rw [hadd, cell_of_row (w.alloc _) w.heap.size j _ _ (0, 0) (heap_alloc_new w _)]
  simpa [encS] using hu

theorem note_call (w : World) (base g cap : Nat) (out : List Stay) (k : Nat) (s : Stay) (t : Int) (e : Ev) (nb : Bool) (hnb : noteOk s e = nb) (hown : w.ownsRow base 85 7 (.slice (some ⟨g, 0, none⟩) out.length cap) out.length (out.flatMap encS)) (hs : out[k]? = some s) :
    Calls Tryz.prog 60 #[.pointer (some ⟨g, k * 7, none⟩), .int .i64 t, .agg #[.int .i64 e.kind, .int .i64 e.thread, .bool e.read, .int .i64 e.count]] w fun en w' => en = .returned (.bool nb) ∧ w'.ownsRow base 85 7 (.slice (some ⟨g, 0, none⟩) out.length cap) out.length ((out.set k (noteS s t e)).flatMap encS) ∧ w.grownBy w' (some g) := by
  rw [← hnb]; exact noteT_any w base g cap out k s t e hown hs

set_option maxRecDepth 100000 in
set_option maxHeartbeats 2000000 in
theorem tallyOf_any (w : World) (v : Value) (l : List Ev) (h : RdL w v 4 encE l) (hwf : ∀ e ∈ l, wfE e) (hlen : l.length ≤ 60000) :
    Calls Tryz.prog 36 #[v] w fun en w' => ∃ v', en = .returned v' ∧ w'.ownsRow (w.heap.size + 1) 85 7 v' (tallyL l).length ((tallyL l).flatMap encS) ∧ Below w.heap.size w w' := by
  obtain ⟨i0, hi, hz0, hz1, hz2⟩ := info_parts Tryz.infoStay
  have hmm := @run_makeMap Tryz.prog
  obtain ⟨A, cap, rfl, l1, l2, hr⟩ := h
  have HW := Lib.hid hwf
  have HR := Lib.hid hr
  clear hwf hr
  go_enter Tryz.func36, Tryz.ntmps36
  go_wp2
  go_loopw [3, 12] (fun v' i wr => ∃ (k : Nat) (D : DataW Unit), k ≤ l.length ∧ i = .int .i64 k ∧ MapIs D (tallyTo l k) ∧ wr.ownsMap Tryz.prog 3 (plainElem Tryz.prog 3) w.heap.size k D ∧ wr.ownsRow (w.heap.size + 1) 85 7 v' (tallyTo l k).length ((tallyTo l k).flatMap encS) ∧ Below w.heap.size w wr) (fun _ i _ => l.length - (intOf i).toNat)
  case atStart =>
    exact ⟨0, .map [], by omega, rfl, mapIs_nil, World.ownsMap_made _ _ _ _, World.ownsRow_nil _ _ _ _, (Below.refl _ _).alloc (Nat.le_refl _) _⟩
  case round =>
    obtain ⟨k, D, hk, rfl, hmi, hmap, hown, hbel⟩ := hrel
    by_cases hlt : k < l.length
    · obtain ⟨bl, off, rfl, hbl, hc⟩ := HR.out (by omega)
      obtain ⟨e, he⟩ := getElem?_lt hlt
      have c0 := (hbel.cell (p := ⟨bl, off + k * 4 + 0, none⟩) hbl).trans (hc k e he 0 _ rfl)
      have c1 := (hbel.cell (p := ⟨bl, off + k * 4 + 1, none⟩) hbl).trans (hc k e he 1 _ rfl)
      have c2 := (hbel.cell (p := ⟨bl, off + k * 4 + 2, none⟩) hbl).trans (hc k e he 2 _ rfl)
      have c3 := (hbel.cell (p := ⟨bl, off + k * 4 + 3, none⟩) hbl).trans (hc k e he 3 _ rfl)
      simp only [Nat.add_zero] at c0
      have hwt : wfE e := HW.out e (List.mem_of_getElem? he)
      have hkey := keyOf_int_mk Tryz.underlying3 hwt
      obtain ⟨out, ho⟩ : ∃ out, out = tallyTo l k := ⟨_, rfl⟩
      have hol : out.length ≤ 60000 := by rw [ho]; have := tallyTo_len l k; omega
      have hts : tallyTo l (k + 1) = tstep out k e := by rw [tallyTo_succ l k e he, ho]
      rw [← ho] at hmi hown
      have hle := hbel.size
      have HE := Lib.hid (And.intro he hts)
      have HM := Lib.hid (And.intro hmi hwt)
      have HO := Lib.hid ho
      have hlm := hmap.lt
      clear hc he hts hmi hwt ho
      by_cases hhas : Maps.has D (keyI e.thread) = true
      · obtain ⟨i, s, hs, hst, hsr, hat0⟩ := (HM.out.1.2.2 e.thread).1 hhas
        have hi : i < out.length := (List.getElem?_eq_some_iff.1 hs).1
        have hno' : Maps.has D (Lit.int .i64 e.thread) = true := hhas
        obtain ⟨g, cp, hv, hg0, hg1⟩ := own_form1 hown (by omega)
        subst hv
        have HH := Lib.hid (And.intro hs (And.intro hst (And.intro hsr hat0)))
        clear hhas hs hst hsr hat0
        have hlk : ∀ c : Int, D.atKey (Lit.int .i64 e.thread) (.lit (.int .i64 0)) = .lit (.int .i64 c) → c = (i : Int) := fun c hc => by
          have h := hc.symm.trans HH.out.2.2.2
          injection h with h
          injection h
        have HL := Lib.hid hlk
        clear hlk
        cases hk1 : (e.kind == 1)
        all_goals
          go_wp2_with (first | (at_lookup; refine wpList_lookup_own_ok_int _ rfl _ _ 130 rfl 3 3 .i64 intK Tryz.underlying130 Tryz.underlying3 (zeroInt _) w.heap.size k D rfl (hmap.alloc _) _ _ rfl hkey ?_; intro c hat hwc; obtain rfl := HL.out c hat; clear hat hwc))
          have hown1 := hown.alloc (.cells #[.int .i64 e.kind, .int .i64 e.thread, .bool e.read, .int .i64 e.count] 62)
          have hc1 : (wr.alloc (.cells #[.int .i64 e.kind, .int .i64 e.thread, .bool e.read, .int .i64 e.count] 62)).cell? ⟨wr.heap.size, 0, none⟩ = some (.int .i64 e.kind) := World.cell?_alloc_at _ _ _ _ rfl
          have hc2 : (wr.alloc (.cells #[.int .i64 e.kind, .int .i64 e.thread, .bool e.read, .int .i64 e.count] 62)).cell? ⟨wr.heap.size, 1, none⟩ = some (.int .i64 e.thread) := World.cell?_alloc_at _ _ _ _ rfl
          have hc3 : (wr.alloc (.cells #[.int .i64 e.kind, .int .i64 e.thread, .bool e.read, .int .i64 e.count] 62)).cell? ⟨wr.heap.size, 2, none⟩ = some (.bool e.read) := World.cell?_alloc_at _ _ _ _ rfl
          have hc4 : (wr.alloc (.cells #[.int .i64 e.kind, .int .i64 e.thread, .bool e.read, .int .i64 e.count] 62)).cell? ⟨wr.heap.size, 3, none⟩ = some (.int .i64 e.count) := World.cell?_alloc_at _ _ _ _ rfl
          have hws : wr.heap.size < (wr.alloc (.cells #[.int .i64 e.kind, .int .i64 e.thread, .bool e.read, .int .i64 e.count] 62)).heap.size := by simp
          cases hnb : noteOk s e
          · have HNB := Lib.hid hnb
            clear hnb
            have hbel1 := hbel.alloc hle (.cells #[.int .i64 e.kind, .int .i64 e.thread, .bool e.read, .int .i64 e.count] 62)
            have hmap1 := hmap.alloc (.cells #[.int .i64 e.kind, .int .i64 e.thread, .bool e.read, .int .i64 e.count] 62)
            generalize hW : (wr.alloc (.cells #[.int .i64 e.kind, .int .i64 e.thread, .bool e.read, .int .i64 e.count] 62)) = W at hc1 hc2 hc3 hc4 hws hown1 hbel1 hmap1 ⊢
            have HBM := Lib.hid (And.intro hbel1 hmap1)
            clear hbel1 hmap1 hbel hmap hown hW
            refine wp_region_still_tail 7 (by kernel_rfl) (by kernel_rfl) ?_
            simp only [List.take_succ_cons, List.take_zero, List.drop_succ_cons, List.drop_zero]
            change wpStill _ _ (World.drew _) _ _ _
            repeat still_step
            refine wpStill_nil ?_
            change wpList _ _ _ _ _ (World.drew W)
            go_wp2_with (go_at_call 60; refine (note_call _ (w.heap.size + 1) g cp out i s _ e _ HNB.out (by exact hown1) HH.out.1).mono ?_; rintro en w3 ⟨rfl, hown3, hg3⟩; have q0 := hg3.cell hc1 (by simp; omega); have q1 := hg3.cell hc2 (by simp; omega))
            have hfin : MapIs D (tallyTo l (k + 1)) ∧ w3.ownsMap Tryz.prog 3 (plainElem Tryz.prog 3) w.heap.size k D ∧ w3.ownsRow (w.heap.size + 1) 85 7 (.slice (some ⟨g, 0, none⟩) out.length cp) (tallyTo l (k + 1)).length ((tallyTo l (k + 1)).flatMap encS) ∧ Below w.heap.size w w3 := by
              obtain ⟨e1, e2⟩ := mapIs_note (k := (k : Int)) HM.out.1 HH.out.1 HH.out.2.1 HH.out.2.2.1 (.inl HNB.out)
              rw [HE.out.2, e1]
              exact ⟨e2, HBM.out.2.drew.kept hg3 (by simp; omega), by simpa using hown3, HBM.out.1.drew.grown hg3 (show w.heap.size ≤ W.heap.size by omega) (fun j hj => by cases hj; omega)⟩
            go_roundw
            case rel => exact ⟨k + 1, _, by omega, by go_num, hfin.1, hfin.2.1.mono (by omega), hfin.2.2.1, hfin.2.2.2⟩
            case measure => simp [intOf]; omega
          · have HNB := Lib.hid hnb
            clear hnb
            by_cases h4 : e.kind = 4
            · have b4 : (e.kind == 4) = true := by rw [h4]; rfl
              have H4 := Lib.hid h4
              clear h4
              have hbel1 := hbel.alloc hle (.cells #[.int .i64 e.kind, .int .i64 e.thread, .bool e.read, .int .i64 e.count] 62)
              have hmap1 := hmap.alloc (.cells #[.int .i64 e.kind, .int .i64 e.thread, .bool e.read, .int .i64 e.count] 62)
              generalize hW : (wr.alloc (.cells #[.int .i64 e.kind, .int .i64 e.thread, .bool e.read, .int .i64 e.count] 62)) = W at hc1 hc2 hc3 hc4 hws hown1 hbel1 hmap1 ⊢
              have HBM := Lib.hid (And.intro hbel1 hmap1)
              clear hbel1 hmap1 hbel hmap hown hW
              refine wp_region_still_tail 7 (by kernel_rfl) (by kernel_rfl) ?_
              simp only [List.take_succ_cons, List.take_zero, List.drop_succ_cons, List.drop_zero]
              change wpStill _ _ (World.drew _) _ _ _
              repeat still_step
              refine wpStill_nil ?_
              change wpList _ _ _ _ _ (World.drew W)
              go_wp2_with (first | (go_at_call 60; refine (note_call _ (w.heap.size + 1) g cp out i s _ e _ HNB.out (by exact hown1) HH.out.1).mono ?_; rintro en w3 ⟨rfl, hown3, hg3⟩; have q0 := hg3.cell hc1 (by simp; omega); have q1 := hg3.cell hc2 (by simp; omega)) | (at_delete; refine wpList_delete_own _ rfl _ _ 130 3 rfl 3 intK Tryz.underlying130 _ w.heap.size k D rfl (HBM.out.2.drew.kept hg3 (by simp; omega)) _ _ rfl hkey ?_; intro w4 hmap4 hturn4))
              have hg4 := hturn4.grown
              have hfin : MapIs (D.del (keyI e.thread)) (tallyTo l (k + 1)) ∧ w4.ownsMap Tryz.prog 3 (plainElem Tryz.prog 3) w.heap.size k (D.del (keyI e.thread)) ∧ w4.ownsRow (w.heap.size + 1) 85 7 (.slice (some ⟨g, 0, none⟩) out.length cp) (tallyTo l (k + 1)).length ((tallyTo l (k + 1)).flatMap encS) ∧ Below w.heap.size w w4 := by
                obtain ⟨e1, e2⟩ := mapIs_rest (k := (k : Int)) HM.out.1 HH.out.1 HH.out.2.1 HH.out.2.2.1 (by omega) HNB.out H4.out
                have hs3 : W.heap.size ≤ w3.heap.size := hg3.size
                have hb3 := HBM.out.1.size
                rw [HE.out.2, e1]
                exact ⟨e2, hmap4, (by simpa using hown3.kept hg4 (.inr (by simp [Value.ownBlock]; omega))), (HBM.out.1.drew.grown hg3 (show w.heap.size ≤ W.heap.size by omega) (fun j hj => by cases hj; omega)).grown hg4 (by omega) (fun j hj => by cases hj; exact Nat.le_refl _)⟩
              go_roundw
              case rel => exact ⟨k + 1, _, by omega, by go_num, hfin.1, hfin.2.1.mono (by omega), hfin.2.2.1, hfin.2.2.2⟩
              case measure => simp [intOf]; omega
            · have b4 : (e.kind == 4) = false := by simpa using h4
              have H4 := Lib.hid h4
              clear h4
              have hbel1 := hbel.alloc hle (.cells #[.int .i64 e.kind, .int .i64 e.thread, .bool e.read, .int .i64 e.count] 62)
              have hmap1 := hmap.alloc (.cells #[.int .i64 e.kind, .int .i64 e.thread, .bool e.read, .int .i64 e.count] 62)
              generalize hW : (wr.alloc (.cells #[.int .i64 e.kind, .int .i64 e.thread, .bool e.read, .int .i64 e.count] 62)) = W at hc1 hc2 hc3 hc4 hws hown1 hbel1 hmap1 ⊢
              have HBM := Lib.hid (And.intro hbel1 hmap1)
              clear hbel1 hmap1 hbel hmap hown hW
              refine wp_region_still_tail 7 (by kernel_rfl) (by kernel_rfl) ?_
              simp only [List.take_succ_cons, List.take_zero, List.drop_succ_cons, List.drop_zero]
              change wpStill _ _ (World.drew _) _ _ _
              repeat still_step
              refine wpStill_nil ?_
              change wpList _ _ _ _ _ (World.drew W)
              go_wp2_with (go_at_call 60; refine (note_call _ (w.heap.size + 1) g cp out i s _ e _ HNB.out (by exact hown1) HH.out.1).mono ?_; rintro en w3 ⟨rfl, hown3, hg3⟩; have q0 := hg3.cell hc1 (by simp; omega); have q1 := hg3.cell hc2 (by simp; omega))
              have hfin : MapIs D (tallyTo l (k + 1)) ∧ w3.ownsMap Tryz.prog 3 (plainElem Tryz.prog 3) w.heap.size k D ∧ w3.ownsRow (w.heap.size + 1) 85 7 (.slice (some ⟨g, 0, none⟩) out.length cp) (tallyTo l (k + 1)).length ((tallyTo l (k + 1)).flatMap encS) ∧ Below w.heap.size w w3 := by
                obtain ⟨e1, e2⟩ := mapIs_note (k := (k : Int)) HM.out.1 HH.out.1 HH.out.2.1 HH.out.2.2.1 (.inr H4.out)
                rw [HE.out.2, e1]
                exact ⟨e2, HBM.out.2.drew.kept hg3 (by simp; omega), by simpa using hown3, HBM.out.1.drew.grown hg3 (show w.heap.size ≤ W.heap.size by omega) (fun j hj => by cases hj; omega)⟩
              go_roundw
              case rel => exact ⟨k + 1, _, by omega, by go_num, hfin.1, hfin.2.1.mono (by omega), hfin.2.2.1, hfin.2.2.2⟩
              case measure => simp [intOf]; omega
      · have hno : Maps.has D (keyI e.thread) = false := by simpa using hhas
        have HN := Lib.hid hno
        have hno' : Maps.has D (Lit.int .i64 e.thread) = false := hno
        clear hhas hno
        by_cases k1 : e.kind = 1
        · have b1 : (e.kind == 1) = true := by rw [k1]; rfl
          have K1 := Lib.hid k1
          clear k1
          obtain ⟨A', cp, hv⟩ := own_form hown
          subst hv
          have hnb : ∀ j, (Value.slice A' out.length cp).ownBlock = some j → w.heap.size + 1 ≤ j := fun j hj => (hown.lt j hj).1
          have HB := Lib.hid hnb
          clear hnb
          go_wp2_with (first | (at_lookup; refine wpList_lookup_own_ok_int _ rfl _ _ 130 rfl 3 3 .i64 intK Tryz.underlying130 Tryz.underlying3 (zeroInt _) w.heap.size k D rfl (hmap.alloc _) _ _ rfl hkey ?_; intro c hat hwc) | (at_mapUpdate; refine wpList_mapUpdate_own _ rfl _ _ _ 130 rfl 3 3 intK Tryz.underlying130 _ w.heap.size k D rfl (hmap.alloc _) ?m1 _ _ _ rfl rfl hkey _ [] (plainElem_int Tryz.underlying3 (WalkArith.wf_i64 (by omega))) ?_))
          case m1 => unfold maxLen; omega
          intro w1 hmap1 hg1
          have hs1 : wr.heap.size + 1 ≤ w1.heap.size := by have := hg1.size; simpa using this
          have q1 : w1.cell? ⟨wr.heap.size, 1, none⟩ = some (.int .i64 e.thread) := hg1.cell (World.cell?_alloc_at _ _ _ _ rfl) (by simp; omega)
          have q2 : w1.cell? ⟨wr.heap.size, 2, none⟩ = some (.bool e.read) := hg1.cell (World.cell?_alloc_at _ _ _ _ rfl) (by simp; omega)
          have hown1 := (hown.alloc (.cells #[.int .i64 e.kind, .int .i64 e.thread, .bool e.read, .int .i64 e.count] 62)).kept hg1 (.inr fun he => by have := HB.out _ he; omega)
          go_wp2_with (at_builtin; refine wpList_append_own _ rfl _ _ 82 rfl (w.heap.size + 1) 85 i0 (.agg #[.int .i64 0, .bool false, .int .i64 0, .int .i64 0, .int .i64 0, .int .i64 0, .int .i64 0]) 7 56 Tryz.underlying82 hi hz0 hz1 hz2 rfl (by decide) _ _ _ rfl (hown1.alloc _) ⟨w1.heap.size, 0, none⟩ 1 1 (encS (newS k e)) rfl rfl (stay_cells w1 (newS k e) rfl) (encS_one _) ?c3 ?c4 ?c5 ?_)
          case c3 => unfold maxLen; omega
          case c4 => omega
          case c5 => simp; omega
          intro v' w2 h2 hg2 _
          have hfin : MapIs (D.put (keyI e.thread) (.lit (.int .i64 (out.length : Int)))) (tallyTo l (k + 1)) ∧ w2.ownsMap Tryz.prog 3 (plainElem Tryz.prog 3) w.heap.size (k + 1) (D.put (keyI e.thread) (.lit (.int .i64 (out.length : Int)))) ∧ w2.ownsRow (w.heap.size + 1) 85 7 v' (tallyTo l (k + 1)).length ((tallyTo l (k + 1)).flatMap encS) ∧ Below w.heap.size w w2 := by
            obtain ⟨e1, e2⟩ := mapIs_ask (k := (k : Int)) HM.out.1 HN.out K1.out
            rw [HE.out.2, e1]
            refine ⟨e2, (hmap1.alloc _).kept hg2 (fun he => by have := HB.out _ he.symm; omega), by simpa [List.flatMap_append, List.flatMap_cons] using h2, ?_⟩
            refine (((hbel.alloc hle _).grown hg1 (by simp; omega) (fun j hj => by cases hj; exact Nat.le_refl _)).alloc (by omega) _).grown hg2 (by simp; omega) (fun j hj => by have := HB.out j hj; omega)
          have HF := Lib.hid hfin
          clear hfin h2 hg2 hown1 q1 q2 hg1 hmap1 hmap hown hbel
          go_wp2
          go_roundw
          case rel => exact ⟨k + 1, _, by omega, by go_num, HF.out.1, HF.out.2.1, HF.out.2.2.1, HF.out.2.2.2⟩
          case measure => simp [intOf]; omega
        · have b1 : (e.kind == 1) = false := by simpa using k1
          have K1 := Lib.hid k1
          clear k1
          go_wp2_with (first | (at_lookup; refine wpList_lookup_own_ok_int _ rfl _ _ 130 rfl 3 3 .i64 intK Tryz.underlying130 Tryz.underlying3 (zeroInt _) w.heap.size k D rfl (hmap.alloc _) _ _ rfl hkey ?_; intro c hat hwc))
          go_quiet (fail)
          go_wp2
          have hfin : tallyTo l (k + 1) = out := by rw [HE.out.2, mapIs_skip HM.out.1 HN.out K1.out]
          go_roundw
          case rel => exact ⟨k + 1, D, by omega, by go_num, by rw [hfin]; exact HM.out.1, (hmap.alloc _).mono (by omega), by rw [hfin]; exact hown.alloc _, below_drewN (hbel.alloc hle _) nq⟩
          case measure => simp [intOf]; omega
    · obtain rfl : k = l.length := by omega
      have HF := Lib.hid (And.intro hown hbel)
      clear hown hbel hmap hmi
      go_wp2
      go_ret
      exact ⟨_, rfl, HF.out.1, HF.out.2⟩
end Go.Proofs.YtagajjilccjplaaGreat
end
section
set_option linter.unusedVariables false
set_option linter.unusedSimpArgs false
/- Layer 14: bypass.Of and the document's Of. -/
namespace Go.Proofs.YtagajjilccjplaaGreat
open Go.RowKit Go.Maps

theorem Tryz.infoPass : (Tryz.prog.info? 48).map (fun i => (i.zero, i.size, i.bytes)) = some (some (.agg #[.int .i64 0, .int .i64 0]), 2, 16) := by kernel_rfl
theorem pass_cells (w : World) (p : Int × Int) {g : Nat} (hg : g = w.heap.size) : ∀ j u, (encP p)[j]? = some u → (w.alloc (.cells #[.int .i64 p.1, .int .i64 p.2] 48)).cell? ((⟨g, 0, none⟩ : Addr).add j) = some u := by
  intro j u hu
  subst hg
  have hadd : (⟨w.heap.size, 0, none⟩ : Addr).add j = ⟨w.heap.size, j, none⟩ := by unfold Addr.add; split <;> simp_all
  rw [hadd, cell_of_row (w.alloc _) w.heap.size j _ _ (0, 0) (heap_alloc_new w _)]
  simpa [encP] using hu
theorem encP_one (p : Int × Int) : ∀ u ∈ encP p, u.oneCell' = true := by
  intro u hu; simp [encP] at hu; rcases hu with rfl | rfl <;> rfl

def endS (l : List Ev) (s : Stay) : Int := if s.enter < 0 then l.length else s.enter
def passOf (ns : List Int) (l : List Ev) (s : Stay) : Int × Int := fromL ns s.thread s.ask (endS l s) l
def passL (ns : List Int) (l : List Ev) : List (Int × Int) := (tallyL l).map (passOf ns l)

theorem tallyL_len (l : List Ev) : (tallyL l).length ≤ l.length := tallyTo_len l _

set_option maxRecDepth 100000 in
set_option maxHeartbeats 2000000 in
theorem bypassOf_any (w : World) (vn ve : Value) (ns : List Int) (l : List Ev) (hn : RdL w vn 1 encI ns) (he : RdL w ve 4 encE l) (hwf : ∀ e ∈ l, wfE e) (hlen : l.length ≤ 60000) :
    Calls Tryz.prog 11 #[vn, ve] w fun en w' => ∃ v', en = .returned v' ∧ RdL w' v' 2 encP (passL ns l) ∧ Below w.heap.size w w' := by
  obtain ⟨i0, hi, hz0, hz1, hz2⟩ := info_parts Tryz.infoPass
  obtain ⟨An, cn, rfl, n1, n2, nr⟩ := hn
  have HN : Hid (RdL w (.slice An ns.length cn) 1 encI ns) := Lib.hid ⟨An, cn, rfl, n1, n2, nr⟩
  obtain ⟨A, cap, rfl, l1, l2, hr⟩ := he
  have HR : Hid (RdL w (.slice A l.length cap) 4 encE l) := Lib.hid ⟨A, cap, rfl, l1, l2, hr⟩
  have HW := Lib.hid hwf
  have htl := tallyL_len l
  clear nr hr n1 n2 hwf
  go_enter Tryz.func11, Tryz.ntmps11
  go_wp2_with fail
  refine (tallyOf_any _ _ l HR.out HW.out hlen).mono ?_
  rintro en w1 ⟨v1, rfl, hown1, hb1⟩
  obtain ⟨s, hs⟩ : ∃ s, s = tallyL l := ⟨_, rfl⟩
  have hpl : passL ns l = s.map (passOf ns l) := by rw [hs]; rfl
  rw [← hs] at hown1 htl
  obtain ⟨A1, c1, rfl⟩ := own_form hown1
  have HS : Hid (RdL w1 (.slice A1 s.length c1) 7 encS s) := Lib.hid (RdL.of_own encS_len rfl (by omega) hown1)
  have HP := Lib.hid hpl
  have HB1 := Lib.hid hb1
  have hle1 := hb1.size
  clear hs hpl hown1 hb1
  go_wp2_with fail
  go_loopw [5, 12] (fun v' i wr => ∃ k : Nat, k ≤ s.length ∧ i = .int .i64 k ∧ wr.ownsRow w1.heap.size 48 2 v' ((s.take k).map (passOf ns l)).length (((s.take k).map (passOf ns l)).flatMap encP) ∧ Below w1.heap.size w1 wr) (fun _ i _ => s.length - (intOf i).toNat)
  case atStart => exact ⟨0, by omega, rfl, World.ownsRow_nil _ _ _ _, Below.refl _ _⟩
  case round =>
    obtain ⟨k, hk, rfl, hown, hbel⟩ := hrel
    have hle := hbel.size
    by_cases hlt : k < s.length
    · obtain ⟨A2, c2, hv2, m1, m2, hrr⟩ := HS.out
      obtain ⟨bs, os, hA, hbs, hcs⟩ := hrr (by omega)
      injection hv2 with hv1 hv2 hv3
      subst hv1
      subst hA
      obtain ⟨x, hx⟩ := getElem?_lt hlt
      have c0 := (hbel.cell (p := ⟨bs, os + k * 7 + 0, none⟩) hbs).trans (hcs k x hx 0 _ rfl)
      have c1 := (hbel.cell (p := ⟨bs, os + k * 7 + 1, none⟩) hbs).trans (hcs k x hx 1 _ rfl)
      have c2 := (hbel.cell (p := ⟨bs, os + k * 7 + 2, none⟩) hbs).trans (hcs k x hx 2 _ rfl)
      have c3 := (hbel.cell (p := ⟨bs, os + k * 7 + 3, none⟩) hbs).trans (hcs k x hx 3 _ rfl)
      have c4 := (hbel.cell (p := ⟨bs, os + k * 7 + 4, none⟩) hbs).trans (hcs k x hx 4 _ rfl)
      have c5 := (hbel.cell (p := ⟨bs, os + k * 7 + 5, none⟩) hbs).trans (hcs k x hx 5 _ rfl)
      have c6 := (hbel.cell (p := ⟨bs, os + k * 7 + 6, none⟩) hbs).trans (hcs k x hx 6 _ rfl)
      simp only [Nat.add_zero] at c0
      obtain ⟨q, hq⟩ : ∃ q, q = (s.take k).map (passOf ns l) := ⟨_, rfl⟩
      have hql : q.length ≤ 60000 := by rw [hq]; simp; omega
      have hqs : (s.take (k + 1)).map (passOf ns l) = q ++ [passOf ns l x] := by rw [take_succ_of hx, List.map_append, ← hq]; rfl
      rw [← hq] at hown
      obtain ⟨pp, hpp⟩ : ∃ pp, pp = passOf ns l x := ⟨_, rfl⟩
      rw [← hpp] at hqs
      have HQ := Lib.hid hqs
      have HPP := Lib.hid hpp
      have HOW := Lib.hid (And.intro hown hbel)
      clear hrr hcs hx hv2 hv3 m1 m2 hq hqs hpp hown hbel
      have fin : ∀ (w2 : World), FromPost (wr.alloc (.cells #[.int .i64 x.thread, .bool x.read, .int .i64 x.ask, .int .i64 x.enter, .int .i64 x.exit, .int .i64 x.rest, .int .i64 x.count] 85)) pp (.returned (.agg #[.int .i64 pp.1, .int .i64 pp.2])) w2 →
          w2.ownsRow w1.heap.size 48 2 u5 q.length (q.flatMap encP) ∧ Below w1.heap.size w1 w2 ∧ w1.heap.size ≤ w2.heap.size := fun w2 ⟨_, hb2⟩ => by
        have hb3 := (HOW.out.2.alloc hle (.cells #[.int .i64 x.thread, .bool x.read, .int .i64 x.ask, .int .i64 x.enter, .int .i64 x.exit, .int .i64 x.rest, .int .i64 x.count] 85))
        refine ⟨?_, hb3.trans (hb2.mono (by simp; omega)), by have := hb2.size; simp at this; omega⟩
        exact (HOW.out.1.alloc _).kept (grown_of_below hb2 none) (by cases hq : u5.ownBlock <;> simp)
      have HF := Lib.hid fin
      clear fin
      have PC : ∀ W t, Below w.heap.size w W → t = endS l x → Calls Tryz.prog 37 #[.slice An ns.length cn, .int .i64 x.thread, .int .i64 x.ask, .int .i64 t, .slice A l.length cap] W (FromPost W pp) := fun W t hb ht => by
        rw [HPP.out]; unfold passOf; rw [ht]
        exact from_any W _ _ ns l _ _ _ (HN.out.below hb (Nat.le_refl _)) (HR.out.below hb (Nat.le_refl _)) hlen
      have HPC := Lib.hid PC
      clear PC
      by_cases hen : x.enter < 0
      · have HEN : Hid ((l.length : Int) = endS l x) := Lib.hid (by unfold endS; rw [if_pos hen])
        go_wp2_with fail
        refine (HPC.out _ _ ((HB1.out.trans (HOW.out.2.mono hle1)).alloc (by omega) _) HEN.out).mono ?_
        rintro en w2 ⟨rfl, hb2⟩
        obtain ⟨hw1, hw2, hw3⟩ := HF.out w2 ⟨rfl, hb2⟩
        clear hb2
        go_wp2_with (at_builtin; refine wpList_append_own _ rfl _ _ 42 rfl w1.heap.size 48 i0 (.agg #[.int .i64 0, .int .i64 0]) 2 16 Tryz.underlying42 hi hz0 hz1 hz2 rfl (by decide) _ _ _ rfl (hw1.alloc _) ⟨w2.heap.size, 0, none⟩ 1 1 (encP pp) rfl rfl (pass_cells w2 pp rfl) (encP_one _) ?c3 ?c4 ?c5 ?_)
        case c3 => unfold maxLen; omega
        case c4 => omega
        case c5 => simp; omega
        intro v' w3 h3 hg3 _
        have hfin : w3.ownsRow w1.heap.size 48 2 v' ((s.take (k + 1)).map (passOf ns l)).length (((s.take (k + 1)).map (passOf ns l)).flatMap encP) ∧ Below w1.heap.size w1 w3 := by
          rw [HQ.out]
          exact ⟨by simpa [List.flatMap_append, List.flatMap_cons] using h3, (hw2.alloc hw3 _).grown hg3 (by simp; omega) (fun j hj => (hw1.lt j hj).1)⟩
        have HFF := Lib.hid hfin
        clear hfin h3 hg3 hw1 hw2
        go_wp2
        go_roundw
        case rel => exact ⟨k + 1, by omega, by go_num, HFF.out.1, HFF.out.2⟩
        case measure => simp [intOf]; omega
      · have HEN : Hid (x.enter = endS l x) := Lib.hid (by unfold endS; rw [if_neg hen])
        go_wp2_with fail
        refine (HPC.out _ _ ((HB1.out.trans (HOW.out.2.mono hle1)).alloc (by omega) _) HEN.out).mono ?_
        rintro en w2 ⟨rfl, hb2⟩
        obtain ⟨hw1, hw2, hw3⟩ := HF.out w2 ⟨rfl, hb2⟩
        clear hb2
        go_wp2_with (at_builtin; refine wpList_append_own _ rfl _ _ 42 rfl w1.heap.size 48 i0 (.agg #[.int .i64 0, .int .i64 0]) 2 16 Tryz.underlying42 hi hz0 hz1 hz2 rfl (by decide) _ _ _ rfl (hw1.alloc _) ⟨w2.heap.size, 0, none⟩ 1 1 (encP pp) rfl rfl (pass_cells w2 pp rfl) (encP_one _) ?d3 ?d4 ?d5 ?_)
        case d3 => unfold maxLen; omega
        case d4 => omega
        case d5 => simp; omega
        intro v' w3 h3 hg3 _
        have hfin : w3.ownsRow w1.heap.size 48 2 v' ((s.take (k + 1)).map (passOf ns l)).length (((s.take (k + 1)).map (passOf ns l)).flatMap encP) ∧ Below w1.heap.size w1 w3 := by
          rw [HQ.out]
          exact ⟨by simpa [List.flatMap_append, List.flatMap_cons] using h3, (hw2.alloc hw3 _).grown hg3 (by simp; omega) (fun j hj => (hw1.lt j hj).1)⟩
        have HFF := Lib.hid hfin
        clear hfin h3 hg3 hw1 hw2
        go_wp2
        go_roundw
        case rel => exact ⟨k + 1, by omega, by go_num, HFF.out.1, HFF.out.2⟩
        case measure => simp [intOf]; omega
    · obtain rfl : k = s.length := by omega
      have HF := Lib.hid (And.intro hown hbel)
      clear hown hbel
      go_wp2
      go_ret
      refine ⟨_, rfl, ?_, HB1.out.trans (HF.out.2.mono hle1)⟩
      have h1 := HF.out.1
      rw [List.take_length] at h1
      rw [HP.out]
      exact RdL.of_own encP_len rfl (by simp; omega) h1
end Go.Proofs.YtagajjilccjplaaGreat
end
