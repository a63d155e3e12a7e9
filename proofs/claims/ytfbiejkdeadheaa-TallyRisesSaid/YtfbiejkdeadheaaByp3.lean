/- Layer 14: bypass.From and the document's From. -/
import Derived.Test.YtfbiejkdeadheaaByp2
namespace Go.Proofs.Ytfbiejkdeadheaa
open Go.RowKit

def FromPost (w : World) (p : Int × Int) (e : Ending) (w' : World) : Prop := e = .returned (.agg #[.int .i64 p.1, .int .i64 p.2]) ∧ Below w.heap.size w w'

set_option maxRecDepth 100000 in
set_option maxHeartbeats 1000000 in
theorem from_any (w : World) (vn ve : Value) (ns : List Int) (l : List Ev) (t a b : Int) (hn : RdL w vn 1 encI ns) (he : RdL w ve 4 encE l) (hlen : l.length ≤ 60000) :
    Calls Try.prog 24 #[vn, .int .i64 t, .int .i64 a, .int .i64 b, ve] w (FromPost w (fromL ns t a b l)) := by
  obtain ⟨An, cn, rfl, n1, n2, nr⟩ := hn
  have HN : Hid (RdL w (.slice An ns.length cn) 1 encI ns) := Lib.hid ⟨An, cn, rfl, n1, n2, nr⟩
  obtain ⟨A, cap, rfl, l1, l2, hr⟩ := he
  have HR := Lib.hid hr
  have hmf : ∀ (fn : Fn) (first cap : Array Value) (w : World), (Instr.makeFunc fn first cap).run Try.prog w = .ok (.func fn first cap) w := fun _ _ _ _ => rfl
  clear nr hr n1 n2
  obtain ⟨own, ho⟩ : ∃ own, own = nodeOf ns t := ⟨_, rfl⟩
  have NC : ∀ W, RdL W (.slice An ns.length cn) 1 encI ns → Calls Try.prog 65 #[.slice An ns.length cn, .int .i64 t] W fun e w' => e = .returned (.int .i64 own) ∧ W = w' := fun W h => by rw [ho]; exact node_any _ _ ns t h
  have HC := Lib.hid NC
  have HO := Lib.hid ho
  clear NC ho
  go_enter Try.func24, Try.ntmps24
  go_wp2_with fail
  refine (HC.out _ (HN.out.below (((((Below.refl w.heap.size w).alloc (Nat.le_refl _) _).alloc (by simp) _).alloc (by simp; omega) _)) (Nat.le_refl _))).mono ?_
  rintro e w' ⟨rfl, rfl⟩
  go_wp2_with fail
  go_loopw [22] (fun i wr => ∃ k : Nat, k ≤ l.length ∧ i = .int .i64 k ∧ Blk wr w.heap.size 26 #[.slice An ns.length cn] ∧ Blk wr (w.heap.size + 1) 46 #[.int .i64 0, .int .i64 0] ∧
      Blk wr (w.heap.size + 1 + 1) 46 #[.int .i64 (fromTo ns t a b l k).1, .int .i64 (fromTo ns t a b l k).2] ∧ Blk wr (w.heap.size + 1 + 1 + 1) 3 #[.int .i64 own] ∧ Below w.heap.size w wr) (fun i _ => l.length - (intOf i).toNat)
  case atStart =>
    refine ⟨0, by omega, rfl, ?_, ?_, ?_, Blk.new' _ _ _ (by simp), ?_⟩
    · exact (((Blk.new' _ _ _ rfl).alloc _).alloc _).alloc _
    · exact ((Blk.new' _ _ _ (by simp)).alloc _).alloc _
    · exact (Blk.new' _ _ _ (by simp)).alloc _
    · exact ((((Below.refl _ _).alloc (Nat.le_refl _) _).alloc (by simp) _).alloc (by simp; omega) _).alloc (by simp; omega) _
  case round =>
    obtain ⟨k, hk, rfl, q0, q1, q2, q3, hbel⟩ := hrel
    have hle := hbel.size
    have hls := q3.lt
    by_cases hlt : k < l.length
    · obtain ⟨bl, off, rfl, hbl, hc⟩ := HR.out (by omega)
      obtain ⟨e, he⟩ := getElem?_lt hlt
      have c0 := (hbel.cell (p := ⟨bl, off + k * 4 + 0, none⟩) hbl).trans (hc k e he 0 _ rfl)
      have c1 := (hbel.cell (p := ⟨bl, off + k * 4 + 1, none⟩) hbl).trans (hc k e he 1 _ rfl)
      have c2 := (hbel.cell (p := ⟨bl, off + k * 4 + 2, none⟩) hbl).trans (hc k e he 2 _ rfl)
      have c3 := (hbel.cell (p := ⟨bl, off + k * 4 + 3, none⟩) hbl).trans (hc k e he 3 _ rfl)
      simp only [Nat.add_zero] at c0
      have hs := fromTo_succ ns t a b l k e he
      have hfl := fromTo_le ns t a b l k
      obtain ⟨p, hp⟩ : ∃ p, p = fromTo ns t a b l k := ⟨_, rfl⟩
      rw [← hp] at q2 hs hfl
      have HS := Lib.hid hs
      have HB := Lib.hid (And.intro q0 (And.intro q1 (And.intro q2 (And.intro q3 hbel))))
      have HK := Lib.hid hfl
      clear hc he hs hp q0 q1 q2 q3 hbel hfl
      by_cases hcnt : e.kind = 2 ∧ ¬ e.thread = t ∧ a < (k : Int) ∧ (k : Int) < b
      · obtain ⟨h1, h2, h3, h4⟩ := hcnt
        have b1 : (e.kind == 2) = true := by rw [h1]; rfl
        have b2 : (e.thread != t) = true := by rw [bne_iff_ne]; exact h2
        have hcs : fromTo ns t a b l (k + 1) = cntP ns e.thread own p := by
          rw [HS.out, if_pos ⟨h3, h4⟩]; unfold cntE cntP; rw [if_pos ⟨h1, h2⟩, HO.out]
        have HCS := Lib.hid hcs
        clear h1 h2 hcs
        go_wp2_with fail
        refine (count_any _ (.slice An ns.length cn) ns e.thread own w.heap.size (w.heap.size + 1 + 1) (w.heap.size + 1 + 1 + 1) p (HN.out.below (HB.out.2.2.2.2.alloc hle _) (Nat.le_refl _)) (HB.out.1.alloc _) (HB.out.2.2.2.1.alloc _) (HB.out.2.2.1.alloc _) (by have := HK.out; omega)).mono ?_
        rintro en w2 ⟨rfl, hb2, hg2⟩
        have hfin : Blk w2 w.heap.size 26 #[.slice An ns.length cn] ∧ Blk w2 (w.heap.size + 1) 46 #[.int .i64 0, .int .i64 0] ∧
            Blk w2 (w.heap.size + 1 + 1) 46 #[.int .i64 (fromTo ns t a b l (k + 1)).1, .int .i64 (fromTo ns t a b l (k + 1)).2] ∧ Blk w2 (w.heap.size + 1 + 1 + 1) 3 #[.int .i64 own] ∧ Below w.heap.size w w2 :=
          ⟨(HB.out.1.alloc _).grown hg2 (by simp; omega), (HB.out.2.1.alloc _).grown hg2 (by simp), by rw [HCS.out]; exact hb2, (HB.out.2.2.2.1.alloc _).grown hg2 (by simp), (HB.out.2.2.2.2.alloc hle _).grown hg2 (by simp; omega) (fun j hj => by cases hj; omega)⟩
        have HF := Lib.hid hfin
        clear hfin hb2 hg2
        go_wp2
        go_roundw
        case rel => exact ⟨k + 1, by omega, by go_num, HF.out⟩
        case measure => simp [intOf]; omega
      · by_cases h1 : e.kind = 2
        · have b1 : (e.kind == 2) = true := by rw [h1]; rfl
          by_cases h2 : e.thread = t
          · have b2 : (e.thread != t) = false := by rw [bne_eq_false_iff_eq]; exact h2
            have hcs : fromTo ns t a b l (k + 1) = p := by
              rw [HS.out]; split
              · unfold cntE; rw [if_neg (by rintro ⟨_, h⟩; exact h h2)]
              · rfl
            clear h1 h2 hcnt
            have HCS := Lib.hid hcs
            clear hcs
            go_wp2
            go_roundw
            case rel => exact ⟨k + 1, by omega, by go_num, HB.out.1.alloc _, HB.out.2.1.alloc _, by rw [HCS.out]; exact HB.out.2.2.1.alloc _, HB.out.2.2.2.1.alloc _, HB.out.2.2.2.2.alloc hle _⟩
            case measure => simp [intOf]; omega
          · have b2 : (e.thread != t) = true := by rw [bne_iff_ne]; exact h2
            by_cases h3 : a < (k : Int)
            · have h4 : ¬ (k : Int) < b := fun h4 => hcnt ⟨h1, h2, h3, h4⟩
              have hcs : fromTo ns t a b l (k + 1) = p := by rw [HS.out, if_neg (by omega)]
              clear h1 h2 hcnt
              have HCS := Lib.hid hcs
              clear hcs
              go_wp2
              go_roundw
              case rel => exact ⟨k + 1, by omega, by go_num, HB.out.1.alloc _, HB.out.2.1.alloc _, by rw [HCS.out]; exact HB.out.2.2.1.alloc _, HB.out.2.2.2.1.alloc _, HB.out.2.2.2.2.alloc hle _⟩
              case measure => simp [intOf]; omega
            · have hcs : fromTo ns t a b l (k + 1) = p := by rw [HS.out, if_neg (by omega)]
              clear h1 h2 hcnt
              have HCS := Lib.hid hcs
              clear hcs
              go_wp2
              go_roundw
              case rel => exact ⟨k + 1, by omega, by go_num, HB.out.1.alloc _, HB.out.2.1.alloc _, by rw [HCS.out]; exact HB.out.2.2.1.alloc _, HB.out.2.2.2.1.alloc _, HB.out.2.2.2.2.alloc hle _⟩
              case measure => simp [intOf]; omega
        · have b1 : (e.kind == 2) = false := by simpa using h1
          have hcs : fromTo ns t a b l (k + 1) = p := by
            rw [HS.out]; split
            · unfold cntE; rw [if_neg (by rintro ⟨h, _⟩; exact h1 h)]
            · rfl
          clear h1 hcnt
          have HCS := Lib.hid hcs
          clear hcs
          go_wp2
          go_roundw
          case rel => exact ⟨k + 1, by omega, by go_num, HB.out.1.alloc _, HB.out.2.1.alloc _, by rw [HCS.out]; exact HB.out.2.2.1.alloc _, HB.out.2.2.2.1.alloc _, HB.out.2.2.2.2.alloc hle _⟩
          case measure => simp [intOf]; omega
    · obtain rfl : k = l.length := by omega
      have d0 : wr.cell? ⟨w.heap.size + 1, 0, none⟩ = _ := q1.cell 0
      have d1 : wr.cell? ⟨w.heap.size + 1, 1, none⟩ = _ := q1.cell 1
      have g0 := q1.free 0
      have g1 := q1.free 1
      have c0 : wr.cell? ⟨w.heap.size + 1 + 1, 0, none⟩ = _ := q2.cell 0
      have c1 : wr.cell? ⟨w.heap.size + 1 + 1, 1, none⟩ = _ := q2.cell 1
      simp only [List.getElem?_toArray, List.getElem?_cons_zero, List.getElem?_cons_succ] at d0 d1 c0 c1
      have HB := Lib.hid hbel
      clear q0 q1 q2 q3 hbel
      go_wp2
      refine bodyPost_ret (v := .agg #[.int .i64 (fromTo ns t a b l l.length).1, .int .i64 (fromTo ns t a b l l.length).2]) (by simp [results, Try.results24, go_sem, d0, d1]) rfl ⟨rfl, ?_⟩
      exact (HB.out.setCell (by simp) _).setCell (by simp) _
theorem rnode_call (W : World) (An : Option Addr) (cn : Nat) (ns : List Int) (x y : Int) (hy : y = nodeOf ns x) (h : RdL W (.slice An ns.length cn) 1 encI ns) :
    Calls Try.prog 67 #[.slice An ns.length cn, .int .i64 x] W fun e w' => e = .returned (.int .i64 y) ∧ W = w' := by rw [hy]; exact rnode_any _ _ ns x h

set_option maxRecDepth 100000 in
set_option maxHeartbeats 1000000 in
theorem rfrom_any (w : World) (vn ve : Value) (ns : List Int) (l : List Ev) (t a b : Int) (hn : RdL w vn 1 encI ns) (he : RdL w ve 4 encE l) (hlen : l.length ≤ 60000) :
    Calls Try.prog 25 #[vn, .int .i64 t, .int .i64 a, .int .i64 b, ve] w (FromPost w (fromL ns t a b l)) := by
  obtain ⟨An, cn, rfl, n1, n2, nr⟩ := hn
  have HN : Hid (RdL w (.slice An ns.length cn) 1 encI ns) := Lib.hid ⟨An, cn, rfl, n1, n2, nr⟩
  obtain ⟨A, cap, rfl, l1, l2, hr⟩ := he
  have HR := Lib.hid hr
  clear nr hr n1 n2
  obtain ⟨own, ho⟩ : ∃ own, own = nodeOf ns t := ⟨_, rfl⟩
  have HO := Lib.hid ho
  clear ho
  go_enter Try.func25, Try.ntmps25
  go_wp2_with fail
  go_loopw [12] (fun i wr => ∃ k : Nat, k ≤ l.length ∧ i = .int .i64 k ∧ Blk wr w.heap.size 46 #[.int .i64 0, .int .i64 0] ∧
      Blk wr (w.heap.size + 1) 46 #[.int .i64 (fromTo ns t a b l k).1, .int .i64 (fromTo ns t a b l k).2] ∧ Below w.heap.size w wr) (fun i _ => l.length - (intOf i).toNat)
  case atStart =>
    refine ⟨0, by omega, rfl, (Blk.new' _ _ _ rfl).alloc _, Blk.new' _ _ _ (by simp), ?_⟩
    exact (((Below.refl _ _).alloc (Nat.le_refl _) _).alloc (by simp) _)
  case round =>
    obtain ⟨k, hk, rfl, q0, q1, hbel⟩ := hrel
    have hle := hbel.size
    have hls := q1.lt
    by_cases hlt : k < l.length ∧ (k : Int) < b
    · obtain ⟨hlt, hkb⟩ := hlt
      obtain ⟨bl, off, rfl, hbl, hc⟩ := HR.out (by omega)
      obtain ⟨e, he⟩ := getElem?_lt hlt
      have c0 := (hbel.cell (p := ⟨bl, off + k * 4 + 0, none⟩) hbl).trans (hc k e he 0 _ rfl)
      have c1 := (hbel.cell (p := ⟨bl, off + k * 4 + 1, none⟩) hbl).trans (hc k e he 1 _ rfl)
      simp only [Nat.add_zero] at c0
      have hs := fromTo_succ ns t a b l k e he
      have hfl := fromTo_le ns t a b l k
      obtain ⟨p, hp⟩ : ∃ p, p = fromTo ns t a b l k := ⟨_, rfl⟩
      rw [← hp] at q1 hs hfl
      have HS := Lib.hid hs
      have HB := Lib.hid (And.intro q0 (And.intro q1 hbel))
      clear hc he hs hp
      by_cases hcnt : e.kind = 2 ∧ ¬ e.thread = t ∧ a < (k : Int)
      · obtain ⟨h1, h2, h3⟩ := hcnt
        have b1 : (e.kind == 2) = true := by rw [h1]; rfl
        have b1' : (e.kind != 2) = false := by rw [h1]; rfl
        have b2 : (e.thread == t) = false := by rw [beq_eq_false_iff_ne]; exact h2
        have hcs : fromTo ns t a b l (k + 1) = cntP ns e.thread own p := by
          rw [HS.out, if_pos ⟨h3, hkb⟩]; unfold cntE cntP; rw [if_pos ⟨h1, h2⟩, HO.out]
        have HCS := Lib.hid hcs
        obtain ⟨y, hy⟩ : ∃ y, y = nodeOf ns e.thread := ⟨_, rfl⟩
        have HY := Lib.hid hy
        have d0 : wr.cell? ⟨w.heap.size + 1, 0, none⟩ = _ := q1.cell 0
        have d1 : wr.cell? ⟨w.heap.size + 1, 1, none⟩ = _ := q1.cell 1
        have g0 := q1.free 0
        have g1 := q1.free 1
        simp only [List.getElem?_toArray, List.getElem?_cons_zero, List.getElem?_cons_succ] at d0 d1
        have HNW := Lib.hid (HN.out.below hbel (Nat.le_refl _))
        obtain ⟨p1, p2, p3, p4⟩ := hfl
        clear h1 h2 hcs hy q0 q1 hbel
        by_cases hyo : y = own
        · have hyb : (y == own) = true := by rw [beq_iff_eq]; exact hyo
          have hcp : cntP ns e.thread own p = (p.1 + 1, p.2) := by unfold cntP; rw [← HY.out, if_pos hyo]
          have HCP := Lib.hid hcp
          clear hyo hcp
          go_wp2_with fail
          refine (rnode_call _ An cn ns _ y HY.out HNW.out).mono ?_
          rintro en w2 ⟨rfl, rfl⟩
          go_wp2_with fail
          refine (rnode_call _ An cn ns _ own HO.out HNW.out).mono ?_
          rintro en w2 ⟨rfl, rfl⟩
          go_wp2
          go_roundw
          case rel => exact ⟨k + 1, by omega, by go_num, HB.out.1.far (by simp) _, by rw [HCS.out, HCP.out]; exact HB.out.2.1.set_ 0 _, HB.out.2.2.setCell (by simp) _⟩
          case measure => simp [intOf]; omega
        · have hyb : (y == own) = false := by rw [beq_eq_false_iff_ne]; exact hyo
          have hcp : cntP ns e.thread own p = (p.1, p.2 + 1) := by unfold cntP; rw [← HY.out, if_neg hyo]
          have HCP := Lib.hid hcp
          clear hyo hcp
          go_wp2_with fail
          refine (rnode_call _ An cn ns _ y HY.out HNW.out).mono ?_
          rintro en w2 ⟨rfl, rfl⟩
          go_wp2_with fail
          refine (rnode_call _ An cn ns _ own HO.out HNW.out).mono ?_
          rintro en w2 ⟨rfl, rfl⟩
          go_wp2
          go_roundw
          case rel => exact ⟨k + 1, by omega, by go_num, HB.out.1.far (by simp) _, by rw [HCS.out, HCP.out]; exact HB.out.2.1.set_ 1 _, HB.out.2.2.setCell (by simp) _⟩
          case measure => simp [intOf]; omega
      · clear hfl q0 q1 hbel
        by_cases h3 : a < (k : Int)
        · by_cases h1 : e.kind = 2
          · have b1 : (e.kind == 2) = true := by rw [h1]; rfl
            have b1' : (e.kind != 2) = false := by rw [h1]; rfl
            by_cases h2 : e.thread = t
            · have b2 : (e.thread == t) = true := by rw [beq_iff_eq]; exact h2
              have hcs : fromTo ns t a b l (k + 1) = p := by
                rw [HS.out]; split
                · unfold cntE; rw [if_neg (by rintro ⟨_, h⟩; exact h h2)]
                · rfl
              clear h1 h2 hcnt
              have HCS := Lib.hid hcs
              clear hcs
              go_wp2
              go_roundw
              case rel => exact ⟨k + 1, by omega, by go_num, HB.out.1, by rw [HCS.out]; exact HB.out.2.1, HB.out.2.2⟩
              case measure => simp [intOf]; omega
            · exact absurd ⟨h1, h2, h3⟩ hcnt
          · have b1 : (e.kind == 2) = false := by simpa using h1
            have b1' : (e.kind != 2) = true := by simpa using h1
            have hcs : fromTo ns t a b l (k + 1) = p := by
              rw [HS.out]; split
              · unfold cntE; rw [if_neg (by rintro ⟨h, _⟩; exact h1 h)]
              · rfl
            clear h1 hcnt
            have HCS := Lib.hid hcs
            clear hcs
            go_wp2
            go_roundw
            case rel => exact ⟨k + 1, by omega, by go_num, HB.out.1, by rw [HCS.out]; exact HB.out.2.1, HB.out.2.2⟩
            case measure => simp [intOf]; omega
        · have hcs : fromTo ns t a b l (k + 1) = p := by rw [HS.out, if_neg (by omega)]
          clear hcnt
          have HCS := Lib.hid hcs
          clear hcs
          go_wp2
          go_roundw
          case rel => exact ⟨k + 1, by omega, by go_num, HB.out.1, by rw [HCS.out]; exact HB.out.2.1, HB.out.2.2⟩
          case measure => simp [intOf]; omega
    · by_cases hlt2 : k < l.length
      · have hkb : ¬ (k : Int) < b := fun h => hlt ⟨hlt2, h⟩
        have hend : fromTo ns t a b l k = fromL ns t a b l := fromTo_end ns t a b l k hk (by omega)
        clear hlt
        have d0 : wr.cell? ⟨w.heap.size, 0, none⟩ = _ := q0.cell 0
        have d1 : wr.cell? ⟨w.heap.size, 1, none⟩ = _ := q0.cell 1
        have g0 := q0.free 0
        have g1 := q0.free 1
        have c0 : wr.cell? ⟨w.heap.size + 1, 0, none⟩ = _ := q1.cell 0
        have c1 : wr.cell? ⟨w.heap.size + 1, 1, none⟩ = _ := q1.cell 1
        simp only [List.getElem?_toArray, List.getElem?_cons_zero, List.getElem?_cons_succ] at d0 d1 c0 c1
        rw [hend] at c0 c1
        have HB := Lib.hid hbel
        clear q0 q1 hbel hend
        go_wp2
        refine bodyPost_ret (v := .agg #[.int .i64 (fromL ns t a b l).1, .int .i64 (fromL ns t a b l).2]) (by simp [results, Try.results25, go_sem, d0, d1]) rfl ⟨rfl, ?_⟩
        exact (HB.out.setCell (by simp) _).setCell (by simp) _
      · obtain rfl : k = l.length := by omega
        have hend : fromTo ns t a b l l.length = fromL ns t a b l := rfl
        clear hlt
        have d0 : wr.cell? ⟨w.heap.size, 0, none⟩ = _ := q0.cell 0
        have d1 : wr.cell? ⟨w.heap.size, 1, none⟩ = _ := q0.cell 1
        have g0 := q0.free 0
        have g1 := q0.free 1
        have c0 : wr.cell? ⟨w.heap.size + 1, 0, none⟩ = _ := q1.cell 0
        have c1 : wr.cell? ⟨w.heap.size + 1, 1, none⟩ = _ := q1.cell 1
        simp only [List.getElem?_toArray, List.getElem?_cons_zero, List.getElem?_cons_succ] at d0 d1 c0 c1
        rw [hend] at c0 c1
        have HB := Lib.hid hbel
        clear q0 q1 hbel hend
        go_wp2
        refine bodyPost_ret (v := .agg #[.int .i64 (fromL ns t a b l).1, .int .i64 (fromL ns t a b l).2]) (by simp [results, Try.results25, go_sem, d0, d1]) rfl ⟨rfl, ?_⟩
        exact (HB.out.setCell (by simp) _).setCell (by simp) _
end Go.Proofs.Ytfbiejkdeadheaa
