/- Joined: Hl5, Tn1. -/
import Derived.Test.YtkdaiomjbkpedaaGreatRows
import Derived.Deep.AppendLies
import Derived.Test.YtkdaiomjbkpedaaGreatMgHmcsTenure1
import Derived.Test.YtkdaiomjbkpedaaGreatMgHmcsTenure2
import Derived.Test.YtkdaiomjbkpedaaGreatMgHmcsTenure7
section
/- Layer 29 (hclh): a new lock. -/
namespace Go.Proofs.YtkdaiomjbkpedaaGreat
open Go.RowKit

theorem rightB (b : Int) (w : World) (h0 : 0 ≤ b) (h1 : b ≤ 1000) : Calls Tryz.prog 52 #[.int .i64 b] w fun e w' => e = .returned (.bool true) ∧ w = w' := by
  have HI : Calls Tryz.prog 89 #[.int .i64 b, .int .i64 0, .int .i64 1000] w fun e w' => e = .returned (.bool true) ∧ w = w' := by
    go_enter Tryz.func89, Tryz.ntmps89
    go_wp2
    go_ret
    exact ⟨rfl, rfl⟩
  have H := Lib.hid HI
  clear HI
  go_enter Tryz.func52, Tryz.ntmps52
  go_wp2_with fail
  refine H.out.mono ?_
  rintro en w1 ⟨rfl, rfl⟩
  go_wp2
  go_ret
  exact ⟨rfl, rfl⟩
theorem Tryz.infoSp : (Tryz.prog.info? 35).map (fun i => (i.zero, i.size, i.bytes)) = some (some (.agg #[.int .i64 0, .int .i64 0, .int .i64 0, .int .i64 0]), 4, 32) := by kernel_rfl
theorem made_const4 (u : Value) (n : Nat) : (madeCells #[u, u, u, u] n).toList = List.replicate n u := by
  unfold madeCells
  rw [Array.toList_map, Array.toList_range]
  refine List.ext_getElem? fun i => ?_
  rw [List.getElem?_map, List.getElem?_replicate]
  by_cases h : i < n
  · rw [List.getElem?_range h, if_pos h]
    have : i % 4 = 0 ∨ i % 4 = 1 ∨ i % 4 = 2 ∨ i % 4 = 3 := by omega
    rcases this with e | e | e | e <;> simp [e]
  · rw [if_neg h]; simp; omega
theorem flat_zero (n : Nat) : (List.replicate n Sp.zero).flatMap encP4 = List.replicate (n * 4) (.int .i64 0) := by
  induction n with
  | zero => rfl
  | succ n ih => rw [List.replicate_succ, List.flatMap_cons, ih, show (n + 1) * 4 = 4 + n * 4 by omega, ← List.replicate_append_replicate]; rfl
def hc0 (s : Ar) (nd n : Nat) : Hc := ⟨{ s with W := List.replicate (1 + nd + n) 0 }, List.replicate 32 0, List.replicate n Sp.zero⟩
def NewHc (w : World) (a g : Nat) (s : Ar) (d : Int) (P T : List Int) (e : Ending) (w' : World) : Prop :=
  ∃ l q b u lo hi, e = .returned (.tuple #[.pointer (some ⟨l, 0, none⟩), .int .i64 0]) ∧ HcIs w' l a g q b u lo hi d P T (hc0 s (leavesL P).length T.length) ∧ w.heap.size ≤ l ∧ w.heap.size ≤ q ∧ w.heap.size ≤ b ∧ w.heap.size ≤ u ∧ Turns [a] w w'
set_option maxRecDepth 100000 in
set_option maxHeartbeats 4000000 in
theorem newHc {w : World} {a g : Nat} {s : Ar} (h : ArIs w a g s) (hs : s.W = []) (hag : a ≠ g) (vP vT : Value) (P T : List Int) (hP : RdL w vP 1 encI P) (hT : RdL w vT 1 encI T) (hc : chkT P T = 0) (d : Int) (hd0 : 0 ≤ d) (hd1 : d ≤ 1000) (hr : s.room = 4096) :
    Calls Tryz.prog 38 #[.pointer (some ⟨a, 0, none⟩), .agg #[vP, vT], .int .i64 d] w (NewHc w a g s d P T) := by
  obtain ⟨i0, hi, hz0, hz1, hz2⟩ := info_parts Tryz.infoSp
  have hml := many_lt (chk_ok hc).1
  have h32 : (leavesL P).length ≤ 32 := by
    have := leavesTo_len P P.length
    show (leavesTo P P.length).length ≤ 32; omega
  have ha0 := h.blk.lt
  have hg0 := h.wds.lt
  obtain ⟨hT1, hT32⟩ : 1 ≤ T.length ∧ T.length ≤ 32 := ⟨hml.2.2.1, hml.2.2.2⟩
  obtain ⟨nd, hnd⟩ : ∃ nd, nd = (leavesL P).length := ⟨_, rfl⟩
  have HND := Lib.hid hnd
  rw [← hnd] at h32
  have H := Lib.hid (And.intro h (And.intro ha0 hg0))
  have HN := Lib.hid (new_yesL (w.alloc (.cells #[vP, vT] 24)) vP vT P T (hP.alloc _) (hT.alloc _) hc)
  have HNo := fun lo W b h => nodesL lo W b P T hc h
  rw [← hnd] at HNo
  have HNO := Lib.hid HNo
  have HS := Lib.hid (And.intro hs hr)
  have HR := Lib.hid (fun W => rightB d W hd0 hd1)
  have hlo : (w.alloc (.cells #[vP, vT] 24)).heap.size = w.heap.size + 1 := by simp
  have B0 := Lib.hid ((Below.refl w.heap.size w).alloc (Nat.le_refl _) (.cells #[vP, vT] 24))
  have x1 : IntKind.i64.wrap (1 + (nd : Int)) = 1 + nd := IntWalk.i64_in _ (by omega)
  clear h hs hP hT hd0 hd1 hr hml HNo hnd ha0 hg0
  go_enter Tryz.func38, Tryz.ntmps38
  go_wp2_with fail
  refine HN.out.mono ?_
  rintro en w1 ⟨b, rfl, hb, t1, b1⟩
  rw [hlo] at hb t1 b1
  have K1 := Lib.hid (And.intro t1 (B0.out.trans (b1.mono (by omega))))
  have HB := Lib.hid hb
  clear t1 b1 hb HN
  go_wp2_with fail
  refine (HR.out _).mono ?_
  rintro en w1' ⟨rfl, rfl⟩
  go_wp2_with fail
  refine (HNO.out _ _ _ K1.out.1).mono ?_
  rintro en w2 ⟨rfl, t2, u2⟩
  have hs1 := K1.out.2.size
  have hs2 := u2.size
  have T2 : Turns [] w w2 := ((Turns.of_below (S := [b]) K1.out.2).trans u2).fresh (by have := HB.out; simp; omega)
  have A2 := H.out.1.turns T2 (by simp) (by simp)
  have K2 := Lib.hid (And.intro t2 (And.intro T2 (And.intro A2 (Nat.le_trans hs1 hs2))))
  clear t2 u2 hs1 hs2 T2 A2
  go_wp2_with fail
  have HT : Hid (takeA s (1 + (nd : Int)) = ({ s with W := List.replicate (1 + nd) 0 }, (1 : Int), (0 : Int))) := Lib.hid (by
    unfold takeA
    rw [HS.out.1, HS.out.2, if_neg (by omega), if_neg (by simp; omega), show (1 + (nd : Int)).toNat = 1 + nd by omega]; rfl)
  refine (take_any K2.out.2.2.1 (1 + (nd : Int))).mono ?_
  rintro en w3 ⟨rfl, k3, t3⟩
  rw [HT.out] at k3 ⊢
  have hs3 := t3.size
  have Q3 : TabL (w.heap.size + 1) w2.heap.size w3 b P T := K2.out.1.keep (fun i h1 h2 => t3.block i h2 (by have := H.out.2.1; simp; omega)) hs3
  have K3 := Lib.hid (And.intro Q3 (And.intro (K2.out.2.1.mono (T := [a]) (by simp) |>.trans t3) (And.intro k3 (Nat.le_trans K2.out.2.2.2 hs3))))
  have hs3' := Lib.hid hs3
  clear k3 t3 Q3 hs3
  go_wp2_with fail
  refine (threads_any _ _ _ _ K3.out.1.f.tab).mono ?_
  rintro en w3' ⟨rfl, rfl⟩
  go_wp2_with fail
  refine (newU K3.out.2.2.1 T.length hT1 hT32 (by have := HS.out.2; simp; omega)).mono ?_
  rintro en w4 ⟨u, rfl, hu, k4, v4, t4⟩
  have hs4 := t4.size
  have hbl := K3.out.1.high
  have Q4 : TabL (w.heap.size + 1) w2.heap.size w4 b P T := K3.out.1.keep (fun i h1 h2 => t4.block i (by have := hs3'.out; omega) (by have := H.out.2.1; simp; omega)) (by have := hs3'.out; omega)
  have K4 := Lib.hid (And.intro Q4 (And.intro (K3.out.2.1.trans t4) (And.intro k4 (And.intro v4 (And.intro (show w3.heap.size ≤ u from hu) (show w3.heap.size ≤ w4.heap.size from hs4))))))
  have H4 := Lib.hid (show w2.heap.size ≤ w4.heap.size by have := hs3'.out; omega)
  clear k4 v4 t4 Q4 hs4 hu
  go_wp2_with fail
  refine (threads_any _ _ _ _ K4.out.1.f.tab).mono ?_
  rintro en w4' ⟨rfl, rfl⟩
  go_wp2_with (refine wpList_make_full _ rfl (.tmp 52) (.tmp 52) 71 rfl w4.heap.size 35 i0 (.agg #[.int .i64 0, .int .i64 0, .int .i64 0, .int .i64 0]) 4 Tryz.underlying71 hi hz0 hz1 .i64 .i64 T.length T.length T.length rfl rfl rfl rfl ?b2 ?b3 (Nat.le_refl _) ?_)
  case b2 => rw [hz2]; omega
  case b3 => unfold maxLen; omega
  intro w5 hown hg
  have hb : SpIs w5 w4.heap.size (List.replicate T.length Sp.zero) := by
    unfold SpIs
    rw [flat_zero]
    have := own_blk hown
    have e : (madeCells #[Value.int .i64 0, .int .i64 0, .int .i64 0, .int .i64 0] (T.length * 4)).toList = List.replicate (T.length * 4) (.int .i64 0) := made_const4 _ _
    rw [e] at this
    exact this
  have t5 : Turns [] w4 w5 := Turns.of_below ((Below.refl w4.heap.size w4).grown hg (Nat.le_refl _) (fun j hj => by cases hj))
  have hs5 := hb.lt
  have H5 := Lib.hid (And.intro hb t5)
  clear hown hg hb t5
  go_wp2
  go_ret2
  have t6 : Turns [] w4 (w5.alloc (.cells #[.pointer (some ⟨a, 0, none⟩), .pointer (some ⟨b, 0, none⟩), .int .i64 1, .pointer (some ⟨u, 0, none⟩), .int .i64 d, .slice (some ⟨w4.heap.size, 0, none⟩) T.length T.length] 73)) := H5.out.2.alloc _
  have s23 := hs3'.out
  have s34 := K4.out.2.2.2.2.2
  have s3u := K4.out.2.2.2.2.1
  have sw2 := K2.out.2.2.2
  have hbb := HB.out
  have hub := K4.out.2.2.2.1.blk.lt
  have hal := H.out.2.1
  have hgl := H.out.2.2
  have s56 : w5.heap.size + 1 = (w5.alloc (.cells #[.pointer (some ⟨a, 0, none⟩), .pointer (some ⟨b, 0, none⟩), .int .i64 1, .pointer (some ⟨u, 0, none⟩), .int .i64 d, .slice (some ⟨w4.heap.size, 0, none⟩) T.length T.length] 73)).heap.size := by simp
  have k6 := K4.out.2.2.1.turns t6 (by simp) (by simp)
  have u6 := K4.out.2.2.2.1.turns t6 (by simp)
  have e1 : (List.replicate (1 + nd) (0 : Int)) ++ List.replicate T.length 0 = List.replicate (1 + (leavesL P).length + T.length) 0 := by rw [List.replicate_append_replicate, ← HND.out]
  refine ⟨w5.heap.size, w4.heap.size, b, u, w.heap.size + 1, w2.heap.size, rfl, ⟨?_, ?_, ?_, ?_, ?_, ?_, ?_, ?_, ?_⟩, ?_, ?_, ?_, ?_, ?_⟩
  · unfold hc0
    rw [← e1]
    exact k6
  · exact Blk.new w5 _ _
  · exact H5.out.1.turns (T := []) ((Turns.refl _ _).alloc _) (by simp)
  · have : (((List.replicate (1 + nd) (0 : Int)).length : Int) + 1) = 2 + ((leavesL P).length : Int) := by rw [← HND.out]; simp; omega
    rw [← this]
    exact u6
  · exact K4.out.1.keep (fun i h1 h2 => t6.block i (by omega) (by simp)) (by rw [← s56]; omega)
  · simp [hc0]
  · omega
  · simp; omega
  · simp; omega
  · omega
  · omega
  · omega
  · omega
  · exact K4.out.2.1.trans (t6.mono (by simp))
end Go.Proofs.YtkdaiomjbkpedaaGreat
end
section
/- Layer 13 (tenure): Node, entries, Longest; layer 23 (budget): Longest. -/
namespace Go.Proofs.YtkdaiomjbkpedaaGreat
open Go.RowKit

theorem Tryz.infoEvT : (Tryz.prog.info? 55).map (fun i => (i.zero, i.size, i.bytes)) = some (some (.agg #[.int .i64 0, .int .i64 0, .bool false, .int .i64 0]), 4, 32) := by kernel_rfl
theorem Tryz.infoRunT : (Tryz.prog.info? 106).map (fun i => (i.zero, i.size, i.bytes)) = some (some (.agg #[.int .i64 0, .int .i64 0, .int .i64 0]), 3, 24) := by kernel_rfl
theorem cells_newT (w : World) (xs : List Value) (t : TypeId) : ∀ j u, xs[j]? = some u → (w.alloc (.cells xs.toArray t)).cell? ((⟨w.heap.size, 0, none⟩ : Addr).add j) = some u := by
  intro j u hj
  have k := Blk.new w t xs.toArray
  have c := k.cell j
  have e : (⟨w.heap.size, 0, none⟩ : Addr).add j = ⟨w.heap.size, j, none⟩ := by
    simp [Addr.add]
    exact fun h => h.symm
  rw [e, c]
  simpa using hj
theorem nodeT_any (w : World) (v : Value) (ns : List Int) (t : Int) (h : RdL w v 1 encI ns) :
    Calls Tryz.prog 69 #[v, .int .i64 t] w fun e w' => e = .returned (.int .i64 (nodeOf ns t)) ∧ w = w' := by
  obtain ⟨A, cap, rfl, l1, l2, hr⟩ := h
  by_cases h0 : t < 0
  · go_enter Tryz.func69, Tryz.ntmps69
    go_wp2
    go_ret
    exact ⟨ret_int (by unfold nodeOf; rw [if_pos (by omega)]), rfl⟩
  · by_cases h1 : (ns.length : Int) ≤ t
    · go_enter Tryz.func69, Tryz.ntmps69
      go_wp2
      go_ret
      exact ⟨ret_int (by unfold nodeOf; rw [if_pos (by omega)]), rfl⟩
    · have hp : nodeOf ns t = ns.getD t.toNat 0 := by unfold nodeOf; rw [if_neg (by omega)]
      obtain ⟨b, off, rfl, _, hc⟩ := hr (by omega)
      obtain ⟨x, hx⟩ := getElem?_lt (show t.toNat < ns.length by omega)
      have c0 := hc t.toNat x hx 0 _ rfl
      simp only [Nat.mul_one, Nat.add_zero] at c0
      have hx2 : nodeOf ns t = x := by rw [hp, List.getD_eq_getElem?_getD, hx]; rfl
      have HX := Lib.hid hx2
      clear hr hc hx hp hx2
      go_enter Tryz.func69, Tryz.ntmps69
      go_wp2
      go_ret
      exact ⟨ret_int HX.out.symm, rfl⟩
/-- all events are entries: they are all of them -/
theorem entriesT (w : World) (v : Value) (l : List Ev) (h : RdL w v 4 encE l) (hk : ∀ e ∈ l, e.kind = 2) (hl : l.length ≤ 1000) :
    Calls Tryz.prog 68 #[v] w fun e w' => ∃ v', e = .returned v' ∧ w'.ownsRow w.heap.size 55 4 v' l.length (l.flatMap encE) ∧ Below w.heap.size w w' := by
  obtain ⟨i0, hi, hz0, hz1, hz2⟩ := info_parts Tryz.infoEvT
  have HI := Lib.hid (And.intro hi (And.intro hz0 (And.intro hz1 hz2)))
  obtain ⟨A, cap, rfl, l1, l2, hr⟩ := h
  have HR := Lib.hid hr
  have HK := Lib.hid hk
  clear hi hz0 hz1 hz2 hr hk
  go_enter Tryz.func68, Tryz.ntmps68
  go_wp2
  go_loopw [3, 8] (fun o i wr => ∃ k : Nat, i = .int .i64 k ∧ k ≤ l.length ∧ wr.ownsRow w.heap.size 55 4 o k ((l.take k).flatMap encE) ∧ Below w.heap.size w wr) (fun _ i _ => l.length - (intOf i).toNat)
  case atStart => exact ⟨0, rfl, by omega, World.ownsRow_nil _ _ _ _, Below.refl _ _⟩
  case round =>
    obtain ⟨k, rfl, hk, hown, hbel⟩ := hrel
    have hsz := hbel.size
    by_cases hlt : k < l.length
    · obtain ⟨bl, off, rfl, hbl, hc⟩ := HR.out (by omega)
      obtain ⟨e, he⟩ := getElem?_lt hlt
      have c0 := (hbel.cell (p := ⟨bl, off + k * 4 + 0, none⟩) hbl).trans (hc k _ he 0 _ rfl)
      have c1 := (hbel.cell (p := ⟨bl, off + k * 4 + 1, none⟩) hbl).trans (hc k _ he 1 _ rfl)
      have c2 := (hbel.cell (p := ⟨bl, off + k * 4 + 2, none⟩) hbl).trans (hc k _ he 2 _ rfl)
      have c3 := (hbel.cell (p := ⟨bl, off + k * 4 + 3, none⟩) hbl).trans (hc k _ he 3 _ rfl)
      simp only [Nat.add_zero] at c0
      have hk2 : e.kind = 2 := HK.out e (List.mem_of_getElem? he)
      rw [hk2] at c0
      have HE := Lib.hid (show (l.take (k + 1)).flatMap encE = (l.take k).flatMap encE ++ [.int .i64 2, .int .i64 e.thread, .bool e.read, .int .i64 e.count] from by
        rw [take_succ_of he, List.flatMap_append]; simp [encE, hk2])
      obtain ⟨A9, c9, rfl⟩ := own_form hown
      have HO := Lib.hid (And.intro hown hbel)
      clear hc he hown hbel hk2
      go_wp2_with (at_builtin; refine wpList_append_lies _ rfl _ _ 52 rfl w.heap.size 55 i0 (.agg #[.int .i64 0, .int .i64 0, .bool false, .int .i64 0]) 4 32 Tryz.underlying52 HI.out.1 HI.out.2.1 HI.out.2.2.1 HI.out.2.2.2 rfl (by decide) _ _ _ rfl ((HO.out.1.alloc _).alloc _) ⟨wr.heap.size + 1, 0, none⟩ 1 1 [.int .i64 2, .int .i64 e.thread, .bool e.read, .int .i64 e.count] rfl rfl (by first | exact cells_newT _ _ _ | simpa using cells_newT (wr.alloc _) [.int .i64 2, .int .i64 e.thread, .bool e.read, .int .i64 e.count] _) (by simp [Value.oneCell']) (by decide) ?c3 ?c4 ?c5 _ rfl ?_)
      case c3 => unfold maxLen; omega
      case c4 => omega
      case c5 => simp; omega
      intro g3 cap3 w9 h9 hg9 hl9 hlt9
      have H9 := Lib.hid (And.intro h9 hg9)
      clear h9 hg9 hl9
      go_wp2
      go_roundw
      case rel => exact ⟨k + 1, by go_num, by omega, by rw [HE.out]; exact H9.out.1, ((HO.out.2.alloc hsz _).alloc (by simp; omega) _).grown H9.out.2 (by simp; omega) (fun j hj => (HO.out.1.lt j hj).1)⟩
      case measure => simp [intOf]; omega
    · obtain rfl : k = l.length := by omega
      have HO := Lib.hid (And.intro hown hbel)
      clear hown hbel
      go_wp2
      go_ret
      refine ⟨_, rfl, ?_, HO.out.2⟩
      have := HO.out.1
      rwa [List.take_length] at this
structure RunT where
  node : Int
  from_ : Int
  many : Int
def encRn (r : RunT) : List Value := [.int .i64 r.node, .int .i64 r.from_, .int .i64 r.many]
theorem encRn_len (r : RunT) : (encRn r).length = 3 := rfl
/-- no run has more than X -/
theorem longestT (w : World) (v : Value) (l : List RunT) (h : RdL w v 3 encRn l) (X : Int) (h0 : 0 ≤ X) (hX : ∀ r ∈ l, r.many ≤ X) :
    Calls Tryz.prog 36 #[v] w fun e w' => ∃ m, e = .returned (.int .i64 m) ∧ m ≤ X ∧ Below w.heap.size w w' := by
  obtain ⟨A, cap, rfl, l1, l2, hr⟩ := h
  have HR := Lib.hid hr
  have HK := Lib.hid hX
  clear hr hX
  go_enter Tryz.func36, Tryz.ntmps36
  go_wp2
  go_loopw [3, 8] (fun o i wr => ∃ (k : Nat) (m : Int), i = .int .i64 k ∧ k ≤ l.length ∧ o = .int .i64 m ∧ m ≤ X ∧ Below w.heap.size w wr) (fun _ i _ => l.length - (intOf i).toNat)
  case atStart => exact ⟨0, 0, rfl, by omega, rfl, h0, Below.refl _ _⟩
  case round =>
    obtain ⟨k, m, rfl, hk, rfl, hm, hbel⟩ := hrel
    have hsz := hbel.size
    by_cases hlt : k < l.length
    · obtain ⟨bl, off, rfl, hbl, hc⟩ := HR.out (by omega)
      obtain ⟨e, he⟩ := getElem?_lt hlt
      have c0 := (hbel.cell (p := ⟨bl, off + k * 3 + 0, none⟩) hbl).trans (hc k _ he 0 _ rfl)
      have c1 := (hbel.cell (p := ⟨bl, off + k * 3 + 1, none⟩) hbl).trans (hc k _ he 1 _ rfl)
      have c2 := (hbel.cell (p := ⟨bl, off + k * 3 + 2, none⟩) hbl).trans (hc k _ he 2 _ rfl)
      simp only [Nat.add_zero] at c0
      have hm2 : e.many ≤ X := HK.out e (List.mem_of_getElem? he)
      have HB := Lib.hid (hbel.alloc hsz (.cells #[.int .i64 e.node, .int .i64 e.from_, .int .i64 e.many] 106))
      clear hc he hbel
      go_wp2
      all_goals
        go_roundw
        case rel => exact ⟨k + 1, _, by go_num, by omega, rfl, by first | exact hm2 | exact hm | omega, HB.out⟩
        case measure => simp [intOf]; omega
    · obtain rfl : k = l.length := by omega
      have HB := Lib.hid hbel
      clear hbel
      go_wp2
      go_ret
      exact ⟨_, rfl, hm, HB.out⟩
/-- a budget's longest tenure -/
theorem longestB (w : World) (b : Nat) (hb : b ≤ 3) :
    Calls Tryz.prog 35 #[.int .i64 b] w fun e w' => e = .returned (.tuple #[.int .i64 ((b : Int) + 1), .int .i64 0]) ∧ w = w' := by
  have HB := Lib.hid (rightB b w (by omega) (by omega))
  go_enter Tryz.func35, Tryz.ntmps35
  go_wp2_with fail
  refine HB.out.mono ?_
  rintro en w1 ⟨rfl, rfl⟩
  go_wp2
  go_loop [4, 9] (fun n i => ∃ k : Nat, k ≤ b ∧ i = .int .i64 k ∧ n = .int .i64 ((k : Int) + 1)) (fun _ i => b - (intOf i).toNat)
  case atStart => exact ⟨0, by omega, rfl, rfl⟩
  case round =>
    obtain ⟨k, hk, rfl, rfl⟩ := hrel
    by_cases hlt : k < b
    · have x1 : IntKind.i64.wrap ((k : Int) + 1 + 1) = (k : Int) + 1 + 1 := IntWalk.i64_in _ (by omega)
      go_wp2
      go_round
      case rel => exact ⟨k + 1, by omega, by go_num, by go_num⟩
      case measure => simp [intOf]; omega
    · obtain rfl : k = b := by omega
      go_wp2
      go_ret2
      exact ⟨rfl, rfl⟩
end Go.Proofs.YtkdaiomjbkpedaaGreat
end
