/- Joined: Cw9, Hc7, Top7, Top8, Hl6. -/
import Derived.Deep.RegionLaw
import Derived.Deep.AppendLies
import Derived.Test.YtkdaiomjbkpedaaGreatRows
import Derived.Test.YtkdaiomjbkpedaaGreatMgCnaU6
import Derived.Test.YtkdaiomjbkpedaaGreatMgCnaU10
import Derived.Test.YtkdaiomjbkpedaaGreatMgCnaU11
import Derived.Test.YtkdaiomjbkpedaaGreatMgCnaU14
section
/- Layer 31 (cna): a new lock. -/
namespace Go.Proofs.YtkdaiomjbkpedaaGreat
open Go.RowKit

/-- a table at some time of New's loop -/
def TBn (l : Nat) (B0 : Nat → Prop) (w : World) (b : Nat) (P T : List Int) (k : Nat) (vN : Value) : Prop :=
  (k = 0 ∧ Tab0Q B0 w b P T ∧ (∀ i, B0 i → i < l) ∧ vN.ownBlock = none) ∨ ∃ B' m, TabQ B' w b P T ∧ (∀ i, B' i → i ≠ l ∧ i < m) ∧ (∀ g, vN.ownBlock = some g → m ≤ g) ∧ m ≤ w.heap.size
def TBf (l : Nat) (w : World) (b : Nat) (P T : List Int) (vN : Value) : Prop := ∃ B' m, TabQ B' w b P T ∧ (∀ i, B' i → i ≠ l ∧ i < m) ∧ (∀ g, vN.ownBlock = some g → m ≤ g) ∧ m ≤ w.heap.size
theorem RdQ.lt {B : Nat → Prop} {w : World} {v : Value} {sz : Nat} {α : Type} {enc : α → List Value} {l : List α} (h : RdQ B w v sz enc l) : RdQ (fun i => B i ∧ i < w.heap.size) w v sz enc l := ⟨h.1, fun hl g hg => ⟨h.2 hl g hg, rd_block h.1 hl hg⟩⟩
theorem TabQ.lt {B : Nat → Prop} {w : World} {b : Nat} {P T : List Int} (h : TabQ B w b P T) : TabQ (fun i => B i ∧ i < w.heap.size) w b P T := by
  obtain ⟨AP, cP, AT, cT, vU, vN, vS, vM, us, h1, h2, h3, h4, h5, h6, h7, h8, h9⟩ := h.ex
  exact ⟨h.ok, ⟨h.low, h1.lt⟩, AP, cP, AT, cT, vU, vN, vS, vM, us, h1, h2.lt, h3.lt, h4.lt, h5.lt, h6.lt, h7.lt, h8, fun i x v a c => (h9 i x v a c).lt⟩
theorem nodeTB {l : Nat} {B0 : Nat → Prop} {w : World} {b : Nat} {P T : List Int} {k : Nat} {vN : Value} (hc : chkT P T = 0) (hl : l < w.heap.size) (h : TBn l B0 w b P T k vN) (hk : k < T.length) (x : Int) (hx : (nodesTo P T T.length)[k]? = some x) :
    Calls Tryz.prog 86 #[.pointer (some ⟨b, 0, none⟩), .int .i64 k] w fun e w' => e = .returned (.int .i64 x) ∧ TBf l w' b P T vN ∧ Turns [b] w w' := by
  rcases h with ⟨_, h0, h1, h2⟩ | ⟨B', m, h0, h1, h2, h3⟩
  · refine (nodeFst B0 w b P T hc k hk h0 x hx).mono ?_
    rintro e w' ⟨he, ht, tn⟩
    refine ⟨he, ⟨_, w'.heap.size, ht.lt, fun i hi => ⟨?_, hi.2⟩, fun g hg => ?_, Nat.le_refl _⟩, tn⟩
    · rcases hi.1 with h4 | h4
      · have := h1 i h4; omega
      · omega
    · rw [h2] at hg; cases hg
  · refine (nodeF w b P T k hk h0.f x hx).mono ?_
    rintro e w' ⟨he, rfl⟩
    exact ⟨he, ⟨B', m, h0, h1, h2, h3⟩, Turns.refl _ _⟩
def lkN (a l q : Nat) (bud : Int) (n : Nat) (vN : Value) : Array Value := #[.pointer (some ⟨a, 0, none⟩), .int .i64 1, .int .i64 bud, vN, .pointer none, .slice (some ⟨q, 0, none⟩) n n]
structure NwI (w5 wr : World) (l b a q : Nat) (bud : Int) (P T : List Int) (B0 : Nat → Prop) (k : Nat) (vN : Value) : Prop where
  blk : Blk wr l 85 (lkN a l q bud T.length vN)
  own : wr.ownsRow w5.heap.size 3 1 vN k (((nodesTo P T T.length).take k).flatMap encI)
  tab : TBn l B0 wr b P T k vN
  tn : Turns [l, b] w5 wr
  lb : l ≠ b
theorem TBn.turns0 {l : Nat} {B0 : Nat → Prop} {w w' : World} {b : Nat} {P T : List Int} {k : Nat} {vN : Value} (h : TBn l B0 w b P T k vN) (t : Turns [] w w') : TBn l B0 w' b P T k vN := by
  rcases h with ⟨h0, h1, h2, h3⟩ | ⟨B', m, h0, h1, h2, h3⟩
  · exact .inl ⟨h0, h1.turns t (by simp), h2, h3⟩
  · exact .inr ⟨B', m, h0.turns t (by simp), h1, h2, Nat.le_trans h3 t.size⟩
theorem Turns.grownBy {w w' : World} {row : Option Nat} (h : w.grownBy w' row) : Turns row.toList w w' :=
  ⟨h.os, h.tape, h.output, h.size, fun i hi hn => h.block i hi (by intro e; rw [← e] at hn; simp at hn)⟩
theorem NwI.step {w5 wr w2 w3 : World} {l b a q : Nat} {bud : Int} {P T : List Int} {B0 : Nat → Prop} {k : Nat} {A : Option Addr} {cap g3 cap3 : Nat} {x : Int} {o : Obj} (h : NwI w5 wr l b a q bud P T B0 k (.slice A k cap)) (hx : (nodesTo P T T.length)[k]? = some x)
    (hl5 : l < w5.heap.size) (hb5 : b < w5.heap.size) (ht : TBf l w2 b P T (.slice A k cap)) (t2 : Turns [b] wr.drew w2)
    (h3 : w3.ownsRow w5.heap.size 3 1 (.slice (some ⟨g3, 0, none⟩) (k + 1) cap3) (k + 1) (((nodesTo P T T.length).take k).flatMap encI ++ encI x)) (hg : (w2.alloc o).grownBy w3 (Value.slice A k cap).ownBlock) (hg3 : (Value.slice A k cap).ownBlock = some g3 ∨ g3 = (w2.alloc o).heap.size) :
    NwI w5 (w3.setCell ⟨l, 3, none⟩ (.slice (some ⟨g3, 0, none⟩) (k + 1) cap3)) l b a q bud P T B0 (k + 1) (.slice (some ⟨g3, 0, none⟩) (k + 1) cap3) := by
  have hlb := h.lb
  have hown : ∀ g, (Value.slice A k cap).ownBlock = some g → w5.heap.size ≤ g := fun g hg => (h.own.lt g hg).1
  have tg : Turns (Value.slice A k cap).ownBlock.toList (w2.alloc o) w3 := Turns.grownBy hg
  have hlo : l ∉ (Value.slice A k cap).ownBlock.toList := fun hm => by
    have := hown l (by simpa using hm); omega
  have bl2 : Blk w2 l 85 _ := t2.blk h.blk.drew (by simpa using hlb)
  have bl3 : Blk w3 l 85 _ := tg.blk (bl2.alloc o) hlo
  have h5 : w5.heap.size ≤ wr.heap.size := h.tn.size
  have hs2 : wr.heap.size ≤ w2.heap.size := t2.size
  have hg35 : w5.heap.size ≤ g3 := (h3.lt g3 rfl).1
  have ts : Turns [l] w3 (w3.setCell ⟨l, 3, none⟩ (.slice (some ⟨g3, 0, none⟩) (k + 1) cap3)) := (Turns.refl _ _).setCell (.inl (by simp)) _
  refine ⟨bl3.set_ 3 _, ?_, .inr ?_, ?_, hlb⟩
  · have e : ((nodesTo P T T.length).take (k + 1)).flatMap encI = ((nodesTo P T T.length).take k).flatMap encI ++ encI x := by
      rw [take_succ_of hx, List.flatMap_append]; simp
    rw [e]
    exact Turns.own h3 ts (fun g hg => by
      injection hg with hg
      subst hg
      simp; omega)
  · obtain ⟨B', m, k1, k2, k3, k4⟩ := ht
    have hsz : w2.heap.size ≤ w3.heap.size := Nat.le_trans (by simp) tg.size
    refine ⟨B', m, ((k1.turns (S := []) ((Turns.refl _ _).alloc o) (by simp)).turns tg (fun i hi hB => ?_)).turns ts (fun i hi hB => ?_), k2, fun g hg => ?_, ?_⟩
    · have := k3 i (by simpa using hi)
      have := (k2 i hB).2
      omega
    · exact (k2 i hB).1 (by simpa using hi)
    · injection hg with hg
      subst hg
      rcases hg3 with e | e
      · exact k3 _ e
      · rw [e]; simp only [World.alloc, Array.size_push]; omega
    · rw [show (w3.setCell ⟨l, 3, none⟩ (.slice (some ⟨g3, 0, none⟩) (k + 1) cap3)).heap.size = w3.heap.size by simp]
      omega
  · have c1 : Turns ([l, b] ++ (Value.slice A k cap).ownBlock.toList) w5 (w3.setCell ⟨l, 3, none⟩ (.slice (some ⟨g3, 0, none⟩) (k + 1) cap3)) :=
      ((((h.tn.mono (by simp)).trans ((Turns.refl _ _).drew)).trans (t2.mono (by simp))).trans (((Turns.refl _ _).alloc o).trans (tg.mono fun i hi => List.mem_append_right _ hi))).trans (ts.mono (by simp))
    refine c1.fresh fun i hi => ?_
    rcases List.mem_append.1 hi with hi | hi
    · exact .inl hi
    · exact .inr (hown i (by simpa using hi))
theorem nextL (w : World) (l : Nat) (c1 : w.cell? ⟨l, 1, none⟩ = some (.int .i64 1)) : Calls Tryz.prog 88 #[.pointer (some ⟨l, 0, none⟩), .int .i64 1] w fun e w' => e = .returned (.int .i64 3) ∧ w = w' := by
  go_enter Tryz.func88, Tryz.ntmps88
  go_wp2
  go_ret
  exact ⟨rfl, rfl⟩
def cn0 (s : Ar) (n : Nat) : Cn := ⟨{ s with W := List.replicate (2 + 3 * n) 0 }, ⟨0, false, 0, 0, 0⟩, List.replicate n Sp.zero⟩
def NewCn (w : World) (a g : Nat) (s : Ar) (bud : Int) (P T : List Int) (e : Ending) (w' : World) : Prop :=
  ∃ (c : Cx) (cap : Nat), c.a = a ∧ c.g = g ∧ e = .returned (.tuple #[.pointer (some ⟨c.l, 0, none⟩), .int .i64 0]) ∧ CnIs w' c cap bud (nodesTo P T T.length) (cn0 s T.length) ∧ w.heap.size ≤ c.l ∧ w.heap.size ≤ c.q ∧ w.heap.size ≤ c.k ∧ Turns [a] w w'
set_option maxRecDepth 100000 in
set_option maxHeartbeats 8000000 in
theorem newCn {w : World} {a g : Nat} {s : Ar} (h : ArIs w a g s) (hs : s.W = []) (hag : a ≠ g) (vP vT : Value) (P T : List Int) (hP : RdL w vP 1 encI P) (hT : RdL w vT 1 encI T) (hc : chkT P T = 0) (bud : Int) (hd0 : 0 ≤ bud) (hd1 : bud ≤ 1000) (hr : s.room = 4096) :
    Calls Tryz.prog 48 #[.pointer (some ⟨a, 0, none⟩), .agg #[vP, vT], .int .i64 bud] w (NewCn w a g s bud P T) := by
  obtain ⟨i0, hi, hz0, hz1, hz2⟩ := info_parts Tryz.infoSp
  obtain ⟨j0, hj, hy0, hy1, hy2⟩ := info_parts Tryz.infoInC
  have hml := many_lt (chk_ok hc).1
  have ha0 := h.blk.lt
  have hg0 := h.wds.lt
  obtain ⟨hT1, hT32⟩ : 1 ≤ T.length ∧ T.length ≤ 32 := ⟨hml.2.2.1, hml.2.2.2⟩
  have H := Lib.hid (And.intro h (And.intro ha0 (And.intro hg0 hag)))
  have HN := Lib.hid (new_yesL (w.alloc (.cells #[vP, vT] 24)) vP vT P T (hP.alloc _) (hT.alloc _) hc)
  have HS := Lib.hid (And.intro hs hr)
  have HCK := Lib.hid hc
  have HR := Lib.hid (fun W => rightB bud W hd0 hd1)
  have hlo : (w.alloc (.cells #[vP, vT] 24)).heap.size = w.heap.size + 1 := by simp
  have B0 := Lib.hid ((Below.refl w.heap.size w).alloc (Nat.le_refl _) (.cells #[vP, vT] 24))
  have x1 : IntKind.i64.wrap (3 * (T.length : Int)) = 3 * (T.length : Int) := IntWalk.i64_in _ (by omega)
  have x2 : IntKind.i64.wrap (2 + 3 * (T.length : Int)) = 2 + 3 * (T.length : Int) := IntWalk.i64_in _ (by omega)
  clear h hs hP hT hd0 hd1 hr hml ha0 hg0 hag hc
  go_enter Tryz.func48, Tryz.ntmps48
  go_wp2_with fail
  refine HN.out.mono ?_
  rintro en w1 ⟨b, rfl, hb, t1, b1⟩
  rw [hlo] at hb t1 b1
  have K1 := Lib.hid (And.intro (t1.q HCK.out) (B0.out.trans (b1.mono (by omega))))
  have HB := Lib.hid hb
  clear t1 b1 hb HN
  go_wp2_with fail
  refine (HR.out _).mono ?_
  rintro en w1' ⟨rfl, rfl⟩
  go_wp2_with fail
  refine (threads_any _ _ _ _ (K1.out.1.tab HCK.out)).mono ?_
  rintro en w1' ⟨rfl, rfl⟩
  go_wp2_with fail
  have A1 := H.out.1.turns (Turns.of_below (S := []) K1.out.2) (by simp) (by simp)
  have HT : Hid (takeA s (2 + 3 * (T.length : Int)) = ({ s with W := List.replicate (2 + 3 * T.length) 0 }, (1 : Int), (0 : Int))) := Lib.hid (by
    unfold takeA
    rw [HS.out.1, HS.out.2, if_neg (by omega), if_neg (by simp; omega), show (2 + 3 * (T.length : Int)).toNat = 2 + 3 * T.length by omega]; rfl)
  refine (take_any A1 (2 + 3 * (T.length : Int))).mono ?_
  rintro en w3 ⟨rfl, k3, t3⟩
  rw [HT.out] at k3 ⊢
  have hw1 := K1.out.2.size
  have hs3 := t3.size
  have hna : ∀ i ∈ [a], ¬ (w.heap.size + 1 ≤ i ∧ i < w1.heap.size) := fun i hi => by have := H.out.2.1; simp at hi; omega
  have K3 := Lib.hid (And.intro (K1.out.1.turns t3 hna) (And.intro ((Turns.of_below (S := [a]) K1.out.2).trans t3) (And.intro k3 (And.intro hw1 hs3))))
  clear k3 t3 A1 hna hs3 hw1 x1 x2
  go_wp2_with (refine wpList_make_full _ rfl (.tmp 43) (.tmp 43) 71 rfl w3.heap.size 35 i0 (.agg #[.int .i64 0, .int .i64 0, .int .i64 0, .int .i64 0]) 4 Tryz.underlying71 hi hz0 hz1 .i64 .i64 T.length T.length T.length rfl rfl rfl rfl ?b2 ?b3 (Nat.le_refl _) ?_)
  case b2 => rw [hz2]; omega
  case b3 => unfold maxLen; omega
  intro w4 hown hg
  have hb : SpIs w4 w3.heap.size (List.replicate T.length Sp.zero) := by
    unfold SpIs
    rw [flat_zero]
    have := own_blk hown
    have e : (madeCells #[Value.int .i64 0, .int .i64 0, .int .i64 0, .int .i64 0] (T.length * 4)).toList = List.replicate (T.length * 4) (.int .i64 0) := made_const4 _ _
    rw [e] at this
    exact this
  have t4 : Turns [] w3 w4 := Turns.of_below ((Below.refl w3.heap.size w3).grown hg (Nat.le_refl _) (fun j hj => by cases hj))
  have hs4 := hb.lt
  have H4 := Lib.hid (And.intro hb (And.intro t4 hs4))
  clear hown hg hb t4 hs4
  go_upto_region 11 with fail
  obtain ⟨q, hq⟩ : ∃ x, x = w3.heap.size := ⟨_, rfl⟩
  rw [← hq] at H4 ⊢
  have HQ := Lib.hid hq
  clear hq
  obtain ⟨l, hl⟩ : ∃ x, x = w4.heap.size := ⟨_, rfl⟩
  obtain ⟨w5, hw5⟩ : ∃ x, x = w4.alloc (.cells (lkN a l q bud T.length (.slice none 0 0)) 85) := ⟨_, rfl⟩
  have hw5' := hw5
  unfold lkN at hw5'
  rw [← hw5', ← hl]
  have t5 : Turns [] w4 w5 := by rw [hw5]; exact (Turns.refl _ _).alloc _
  have hs5 : w5.heap.size = l + 1 := by rw [hw5, hl]; simp
  have hb5 : Blk w5 l 85 (lkN a l q bud T.length (.slice none 0 0)) := by rw [hw5, hl]; exact Blk.new _ _ _
  have HI := Lib.hid (show NwI w5 w5 l b a q bud P T (fun i => w.heap.size + 1 ≤ i ∧ i < w1.heap.size) 0 (.slice none 0 0) from by
    have e1 := K3.out.2.2.2
    have e2 := H4.out.2.2
    have e3 := H4.out.2.1.size
    refine ⟨hb5, ?_, .inl ⟨rfl, (K3.out.1.turns H4.out.2.1 (by simp)).turns t5 (by simp), fun i hi => by omega, rfl⟩, Turns.refl _ _, ?_⟩
    · rw [List.take_zero, List.flatMap_nil]
      exact World.ownsRow_nil _ _ _ _
    · have : b < w1.heap.size := K1.out.1.low.2
      omega)
  have H5 := Lib.hid (And.intro t5 (And.intro hs5 hl))
  clear hw5 hw5' t5 hs5 hb5 hl
  go_wp2
  go_loopw [13, 48] (fun _ i wr => ∃ (k : Nat) (vN : Value), i = .int .i64 k ∧ k ≤ T.length ∧ NwI w5 wr l b a q bud P T (fun i => w.heap.size + 1 ≤ i ∧ i < w1.heap.size) k vN) (fun _ i _ => T.length - (intOf i).toNat)
  case atStart => exact ⟨0, _, rfl, by omega, HI.out⟩
  case round =>
    clear HI
    obtain ⟨k, vN, rfl, hk, hW⟩ := hrel
    obtain ⟨wo, rfl⟩ : ∃ wo : World, wo = wr := ⟨_, rfl⟩
    have hl5 : l < w5.heap.size := by have := H5.out.2.1; omega
    have hb5 : b < w5.heap.size := by
      have e0 : b < w1.heap.size := K1.out.1.low.2
      have e1 := K3.out.2.2.2.2
      have e2 := H4.out.2.1.size
      have e3 := H5.out.1.size
      omega
    by_cases hlt : k < T.length
    · obtain ⟨A, cap, rfl⟩ := own_form hW.own
      obtain ⟨x, hx⟩ : ∃ x, (nodesTo P T T.length)[k]? = some x := getElem?_lt (by rw [nodesTo_len (Nat.le_refl _)]; exact hlt)
      have c3 : wo.cell? ⟨l, 3, none⟩ = some (.slice A k cap) := hW.blk.cell 3
      have hll : l < wo.heap.size := hW.blk.lt
      have h5o : w5.heap.size ≤ wo.heap.size := hW.tn.size
      have HNd := Lib.hid (nodeTB HCK.out (w := wo.drew) hll (hW.tab.turns0 ((Turns.refl _ _).drew)) hlt x hx)
      have HX := Lib.hid hx
      have HW := Lib.hid hW
      have HLB := Lib.hid hW.lb
      clear hW hx
      go_wp2_with fail
      go_region_law (first
        | (refine step_append_lies _ rfl _ _ 22 rfl w5.heap.size 3 j0 (.int .i64 0) 1 8 Tryz.underlying22 hj hy0 hy1 hy2 rfl (by decide) _ _ _ rfl (o2.alloc _) ⟨w2.heap.size, 0, none⟩ 1 1 (encI x) rfl rfl (fun j u hj => cell_one_new w2 (.int .i64 x) 3 j u hj) (one_enc _) (by decide) (by unfold maxLen; omega) (by omega) (by simp; omega) _ rfl ?_; intro g3 cap3 w7 h3 hg3 hl3 hlt3; have bl3 := (bl2.alloc (.cells #[.int .i64 x] 3)).grown hg3 (fun e => hlown e.symm); have c33 : w7.cell? ⟨l, 3, none⟩ = some (.slice A k cap) := bl3.cell 3; have z33 := bl3.free 3)
        | (go_simp; go_at_call 86; refine HNd.out.mono ?_; rintro en w2 ⟨rfl, ht2, tn2⟩; have bl2 : Blk w2 l 85 (lkN a l q bud T.length (.slice A k cap)) := tn2.blk HW.out.blk.drew (by simpa using HLB.out); have o2 : w2.ownsRow w5.heap.size 3 1 (.slice A k cap) k (((nodesTo P T T.length).take k).flatMap encI) := Turns.own (show wo.drew.ownsRow _ _ _ _ _ _ from HW.out.own) tn2 (fun g hg => by have := (HW.out.own.lt g hg).1; simp; omega); have hlown : (Value.slice A k cap).ownBlock ≠ some l := (fun e => by have := (HW.out.own.lt l e).1; omega); have c32 : w2.cell? ⟨l, 3, none⟩ = some (.slice A k cap) := bl2.cell 3; have hl2 : l < w2.heap.size := bl2.lt; have hs2 := tn2.size; simp at hs2))
      all_goals
        have HR := Lib.hid (NwI.step HW.out HX.out hl5 hb5 ht2 tn2 h3 hg3 hl3)
        clear ht2 tn2 h3 hg3 hl3 bl3 bl2 o2
        go_wp2
        go_roundw
        case rel => exact ⟨k + 1, _, by go_num, by omega, HR.out⟩
        case measure => simp [intOf]; omega
    · obtain rfl : k = T.length := by omega
      have hlen : (nodesTo P T T.length).length = T.length := nodesTo_len (Nat.le_refl _)
      obtain ⟨nb, cap, rfl, hnb0, hnb1⟩ := own_form1 hW.own (by omega)
      have hro := hW.own
      rw [show (nodesTo P T T.length).take T.length = nodesTo P T T.length from List.take_of_length_le (by rw [hlen]; exact Nat.le_refl _)] at hro
      have hrow : ∀ m, m < (nodesTo P T T.length).length → wo.cell? ⟨nb, m, none⟩ = some (.int .i64 (ndf (nodesTo P T T.length) m)) := fun m hm => by
        obtain ⟨x, hx⟩ := getElem?_lt hm
        have e : ndf (nodesTo P T T.length) m = x := by unfold ndf; rw [List.getD_eq_getElem?_getD, hx]; rfl
        rw [e]
        obtain ⟨_, _, h1, _, _, h2⟩ := own_rdl (l := nodesTo P T T.length) (by rw [hlen]; exact hro) (by omega)
        obtain ⟨b', off, h3, _, h4⟩ := h2 (by omega)
        injection h1 with h1
        rw [h3] at h1
        injection h1 with h1
        injection h1 with h5 h6
        have := h4 m x hx 0 _ rfl
        rw [← h5, ← h6] at this
        simpa using this
      have c1 : wo.cell? ⟨l, 1, none⟩ = some (.int .i64 1) := hW.blk.cell 1
      have c3 : wo.cell? ⟨l, 3, none⟩ = some (.slice (some ⟨nb, 0, none⟩) T.length cap) := hW.blk.cell 3
      have hll : l < wo.heap.size := hW.blk.lt
      have HNX := Lib.hid (nextL wo.drew l c1)
      have HNS0 := newSc wo.drew a nb cap (nodesTo P T T.length) (by rw [hlen]; omega) hrow
      rw [hlen] at HNS0
      have HNS := Lib.hid HNS0
      have HW := Lib.hid (And.intro hW hrow)
      clear hW hrow HNS0 hro
      go_wp2_with fail
      go_region_held3 (fun W => W.cell? ⟨l, 3, none⟩ = some (.slice (some ⟨nb, 0, none⟩) T.length cap))
        (first | exact c3 | exact c38 | exact c39)
        (first
          | (go_at_call 88; go_loud (refine HNX.out.mono ?_); rintro en w7 ⟨rfl, rfl⟩)
          | (go_at_call 87; go_loud (refine HNS.out.mono ?_); rintro en w8 ⟨kk, n1, b0, b1, b2, rfl, wk8, p0, p1, p2, hord, b8⟩; have bl8 : Blk w8 l 85 (lkN a l q bud T.length (.slice (some ⟨nb, 0, none⟩) T.length cap)) := HW.out.1.blk.drew.below b8 hll; have c38 : w8.cell? ⟨l, 3, none⟩ = some (.slice (some ⟨nb, 0, none⟩) T.length cap) := bl8.cell 3; have c48 : w8.cell? ⟨l, 4, none⟩ = some (.pointer none) := bl8.cell 4; have z48 := bl8.free 4; have c39 : (w8.setCell ⟨l, 4, none⟩ (.pointer (some ⟨kk, 0, none⟩))).cell? ⟨l, 3, none⟩ = some (.slice (some ⟨nb, 0, none⟩) T.length cap) := (bl8.set_ 4 (.pointer (some ⟨kk, 0, none⟩))).cell 3; have H8 := Lib.hid (And.intro wk8 (And.intro p0 (And.intro p1 (And.intro p2 (And.intro hord (And.intro b8 bl8)))))); clear wk8 p0 p1 p2 hord b8 bl8))
      all_goals
        go_wp2
        go_ret2
        have f1 := K1.out.2.size
        have f2 := K3.out.2.2.2
        have f3 := H4.out.2.2
        have f4 := H4.out.2.1.size
        have f5 := H5.out.2
        have f6 := HQ.out
        have f7 : b < w1.heap.size := K1.out.1.low.2
        have f8 : w.heap.size + 1 ≤ b := K1.out.1.low.1
        have f9 := H.out.2
        have f10 := H8.out.2.2.2.2.1
        have f11 : w5.heap.size ≤ wo.heap.size := HW.out.1.tn.size
        have f12 : wo.drew.heap.size = wo.heap.size := rfl
        have f13 : nb < wo.heap.size := block_lt_of_cell (HW.out.2 0 (by rw [hlen]; omega))
        rw [f12] at f10
        have t8 : Turns [] wo w8 := ((Turns.refl _ _).drew).trans (Turns.of_below H8.out.2.2.2.2.2.1)
        have t9 : Turns [l] w8 (w8.setCell ⟨l, 4, none⟩ (.pointer (some ⟨kk, 0, none⟩))) := (Turns.refl _ _).setCell (.inl (by simp)) _
        have t59 : Turns [l, b] w5 (w8.setCell ⟨l, 4, none⟩ (.pointer (some ⟨kk, 0, none⟩))) := (HW.out.1.tn.trans (t8.mono (by simp))).trans (t9.mono (by simp))
        have t39 : Turns [l, b] w3 (w8.setCell ⟨l, 4, none⟩ (.pointer (some ⟨kk, 0, none⟩))) := ((H4.out.2.1.mono (by simp)).trans (H5.out.1.mono (by simp))).trans t59
        refine ⟨⟨l, a, g, q, kk, n1, nb, b0, b1, b2⟩, cap, rfl, rfl, rfl, ⟨?_, ?_, ?_, ?_, ?_, ?_, ?_, ?_, ?_, ?_, ?_, ?_⟩, ?_, ?_, ?_, ?_⟩
        · exact K3.out.2.2.1.turns t39 (by simp; omega) (by simp; omega)
        · unfold lkC
          rw [hlen]
          exact H8.out.2.2.2.2.2.2.set_ 4 _
        · exact (H4.out.1.turns (T := []) H5.out.1 (by simp)).turns t59 (by show q ∉ [l, b]; simp; omega)
        · exact H8.out.1.turns t9 (by show kk ∉ [l]; simp; omega) (by show n1 ∉ [l]; simp; omega)
        · intro m hm
          have e8 : w8.cell? ⟨nb, m, none⟩ = wo.cell? ⟨nb, m, none⟩ := t8.cell f13 (by simp)
          have e9 := t9.cell (p := ⟨nb, m, none⟩) (by have := t8.size; show nb < w8.heap.size; omega) (by show nb ∉ [l]; simp; omega)
          exact e9.trans (e8.trans (HW.out.2 m hm))
        · exact t9.blk H8.out.2.1 (by show b0 ∉ [l]; simp; omega)
        · exact t9.blk H8.out.2.2.1 (by show b1 ∉ [l]; simp; omega)
        · exact t9.blk H8.out.2.2.2.1 (by show b2 ∉ [l]; simp; omega)
        · rw [hlen]; simp [cn0]
        · rw [hlen]; omega
        · show [a, g, q, kk].Nodup
          simp; omega
        · show ∀ x ∈ [l, n1, nb, b0, b1, b2], x ∉ [a, g, q, kk]
          intro x hx
          simp at hx ⊢
          omega
        · show w.heap.size ≤ l; omega
        · show w.heap.size ≤ q; omega
        · show w.heap.size ≤ kk; omega
        · have : Turns [a, l, b] w (w8.setCell ⟨l, 4, none⟩ (.pointer (some ⟨kk, 0, none⟩))) := (K3.out.2.1.mono (by simp)).trans (t39.mono (by simp))
          exact this.fresh fun i hi => by simp at hi ⊢; omega
end Go.Proofs.YtkdaiomjbkpedaaGreat
end
section
/- Layer 29 (hclh): the machine at its start; how many hold. No program in sight. -/
namespace Go.Proofs.YtkdaiomjbkpedaaGreat
open Go

theorem getD_rep {α : Type} (a : α) (n i : Nat) : (List.replicate n a).getD i a = a := by
  rw [List.getD_eq_getElem?_getD, List.getElem?_replicate]
  split <;> rfl
theorem sv_rep (n i : Nat) : sv (List.replicate n Sp.zero) i = Sp.zero := getD_rep _ _ _
section
variable {nd n N : Nat} {dl : Int} {node : Nat → Nat} {h : Hc} {G : Nat → List Nat}
theorem HOk.start (s : Ar) (hn : n ≤ 32) (hnn : ∀ t, t < n → node t < nd) (hs : s.ops = 0) (hW : s.W = List.replicate (1 + nd + n) 0) :
    HOk nd n dl node ⟨s, List.replicate 32 0, List.replicate n Sp.zero⟩ 0 fun _ => [] := by
  have z : ∀ t, (sv (List.replicate n Sp.zero) t).pc = 0 := fun t => by rw [sv_rep]; rfl
  have d : ∀ t, dv (List.replicate 32 0) t = 0 := fun t => getD_rep _ _ _
  refine ⟨⟨?_, ?_, ?_, hn, hnn, ?_, ?_, ?_, ?_, ?_, ?_, ?_, ?_, ?_, ?_, ?_, ?_, ?_, ?_⟩, by show s.ops ≤ 0; omega, fun t => by rw [d]; exact Int.le_refl _, fun t _ h2 => ?_⟩
  · rw [hW]; simp
  · simp
  · simpa using hn
  · intro t _
    show tnw nd s.W t = _
    rw [hW, d]; exact getD_rep _ _ _
  · intro t; show 0 ≤ dv (List.replicate 32 0) t; rw [d]; exact Int.le_refl _
  · intro _; exact List.nodup_nil
  · intro _ _ t h1; cases h1
  · intro _ t h1; cases h1
  · intro _; trivial
  · intro t _ _; exact .inl (z t)
  · intro m hm; exact absurd rfl hm
  · intro _ t h1; cases h1
  · intro m hm; exact absurd rfl hm
  · intro m _ hm; exact absurd rfl hm
  · intro v _; refine .inl ?_; rw [hW]; exact getD_rep _ _ _
  · intro t h1; cases h1
  · refine .inr ⟨rfl, .inl ?_⟩; rw [hW]; exact getD_rep _ _ _
  · have := z t
    have h2' : (sv (List.replicate n Sp.zero) t).pc = 2 := h2
    omega
def holdC (S : List Sp) (k : Nat) : Nat := (List.range k).countP fun j => decide ((sv S j).pc = 10)
theorem holdC_succ (S : List Sp) (k : Nat) : holdC S (k + 1) = holdC S k + if (sv S k).pc = 10 then 1 else 0 := by
  unfold holdC; rw [List.range_succ, List.countP_append]; simp [List.countP_cons]
/-- one at most holds, of those who are counted -/
theorem hold_one {S : List Sp} (hu : ∀ a b, a < n → b < n → (sv S a).pc = 10 → (sv S b).pc = 10 → a = b) : ∀ k, k ≤ n → holdC S k ≤ 1 ∧ (1 ≤ holdC S k → ∃ j, j < k ∧ (sv S j).pc = 10)
  | 0, _ => ⟨by simp [holdC], fun h => by simp [holdC] at h⟩
  | k + 1, hk => by
    obtain ⟨h1, h2⟩ := hold_one hu k (by omega)
    rw [holdC_succ]
    by_cases hb : (sv S k).pc = 10
    · rw [if_pos hb]
      have h0 : holdC S k = 0 := by
        rcases Nat.eq_zero_or_pos (holdC S k) with h0 | h0
        · exact h0
        · obtain ⟨j, hj, hjq⟩ := h2 h0
          have := hu j k (by omega) (by omega) hjq hb
          omega
      exact ⟨by omega, fun _ => ⟨k, by omega, hb⟩⟩
    · rw [if_neg hb]
      exact ⟨by omega, fun h => by obtain ⟨j, hj, hq⟩ := h2 (by omega); exact ⟨j, by omega, hq⟩⟩
theorem HOk.holds (k : HOk nd n dl node h N G) (m : Nat) (hm : m ≤ n) : holdC h.S m ≤ 1 := (hold_one (fun _ _ ha hb h1 h2 => k.hold1 ha hb h1 h2) m hm).1
end
end Go.Proofs.YtkdaiomjbkpedaaGreat
end
section
/- Layer 6, the document's: Has, leaf, deep, Few. -/
namespace Go.Proofs.YtkdaiomjbkpedaaGreat
open Go.RowKit

set_option maxHeartbeats 1000000 in
theorem has_any (w : World) (v : Value) (l : List Int) (x : Int) (h : RdL w v 1 encI l) :
    Calls Tryz.prog 122 #[v, .int .i64 x] w fun e w' => e = .returned (.bool (decide (x ∈ l))) ∧ w = w' := by
  obtain ⟨A, cap, rfl, l1, l2, hr⟩ := h
  have HR := Lib.hid hr
  clear hr
  go_enter Tryz.func122, Tryz.ntmps122
  go_wp2
  go_loop [5] (fun i => ∃ k : Nat, i = .int .i64 k ∧ k ≤ l.length ∧ x ∉ l.take k) (fun i => l.length - (intOf i).toNat)
  case atStart => exact ⟨0, rfl, by omega, by simp⟩
  case round =>
    obtain ⟨k, rfl, hk, hn⟩ := hrel
    by_cases hlt : k < l.length
    · obtain ⟨bl, off, rfl, hbl, hc⟩ := HR.out (by omega)
      obtain ⟨y, hy⟩ := getElem?_lt hlt
      have c0 := hc k y hy 0 _ rfl
      simp only [Nat.add_zero, Nat.mul_one] at c0
      have HY := Lib.hid (And.intro hy hn)
      clear hc hy hn
      cases hxy : (y == x)
      · have hne : Hid (x ∉ l.take (k + 1)) := Lib.hid (by
          rw [mem_take HY.out.1]
          rintro (h | h)
          · exact HY.out.2 h
          · rw [h] at hxy; simp at hxy)
        go_wp2
        go_round
        case rel => exact ⟨k + 1, by go_num, by omega, hne.out⟩
        case measure => simp [intOf]; omega
      · have hid : Hid (x ∈ l) := Lib.hid (by rw [← beq_iff_eq.1 hxy]; exact List.mem_of_getElem? HY.out.1)
        go_wp2
        go_ret
        exact ⟨ret_bool (decide_eq_true hid.out).symm, rfl⟩
    · obtain rfl : k = l.length := by omega
      rw [List.take_length] at hn
      have hid : Hid (x ∉ l) := Lib.hid hn
      clear hn
      go_wp2
      go_ret
      exact ⟨ret_bool (decide_eq_false hid.out).symm, rfl⟩
theorem rleaf_any (w : World) (v : Value) (P : List Int) (x : Int) (h : RdL w v 1 encI P) :
    Calls Tryz.prog 84 #[v, .int .i64 x] w fun e w' => e = .returned (.bool (leafB P x)) ∧ w = w' := by
  have HH := Lib.hid (has_any w v P x h)
  obtain ⟨A, cap, rfl, l1, l2, hr⟩ := h
  clear hr
  have HL := Lib.hid (show leafB P x = (decide (0 ≤ x) && decide (x < P.length) && !decide (x ∈ P)) from by
    unfold leafB
    by_cases h1 : 0 ≤ x <;> by_cases h2 : x < P.length <;> by_cases h3 : x ∈ P <;> simp [h1, h2, h3])
  go_enter Tryz.func84, Tryz.ntmps84
  cases h1 : decide (0 ≤ x)
  · rw [h1] at HL
    have h1' : ¬ 0 ≤ x := of_decide_eq_false h1
    go_wp2
    go_ret
    exact ⟨ret_bool HL.out.symm, rfl⟩
  · cases h2 : decide (x < P.length)
    · rw [h1, h2] at HL
      have h1' : 0 ≤ x := of_decide_eq_true h1
      have h2' : ¬ x < P.length := of_decide_eq_false h2
      go_wp2
      go_ret
      exact ⟨ret_bool HL.out.symm, rfl⟩
    · rw [h1, h2] at HL
      have h1' : 0 ≤ x := of_decide_eq_true h1
      have h2' : x < P.length := of_decide_eq_true h2
      cases h3 : decide (x ∈ P)
      · rw [h3] at HL HH
        clear h3
        go_wp2_with (go_at_call 122; refine HH.out.mono ?_; rintro e w' ⟨rfl, rfl⟩)
        go_ret
        exact ⟨ret_bool HL.out.symm, rfl⟩
      · rw [h3] at HL HH
        clear h3
        go_wp2_with (go_at_call 122; refine HH.out.mono ?_; rintro e w' ⟨rfl, rfl⟩)
        go_ret
        exact ⟨ret_bool HL.out.symm, rfl⟩
theorem dep_stop {P : List Int} {f : Nat} {v : Int} (h : ¬ (0 ≤ v ∧ v < P.length)) : dep P f v = 0 := by
  cases f with
  | zero => rfl
  | succ f => unfold dep; rw [if_neg h]
theorem dep_go {P : List Int} {f : Nat} {v p : Int} (h0 : 0 ≤ v) (hp : P[v.toNat]? = some p) : dep P (f + 1) v = dep P f p + 1 := by
  have := (List.getElem?_eq_some_iff.1 hp).1
  show (if 0 ≤ v ∧ v < P.length then dep P f (P.getD v.toNat 0) + 1 else 0) = _
  rw [if_pos (by omega), getD_of hp]
set_option maxHeartbeats 1000000 in
theorem rdeep_any (w : World) (v : Value) (P : List Int) (x : Int) (h : RdL w v 1 encI P) :
    Calls Tryz.prog 85 #[v, .int .i64 x] w fun e w' => e = .returned (.int .i64 ((depL P x : Nat) : Int)) ∧ w = w' := by
  obtain ⟨A, cap, rfl, l1, l2, hr⟩ := h
  have HR := Lib.hid hr
  clear hr
  go_enter Tryz.func85, Tryz.ntmps85
  go_wp2
  go_loop [1, 5, 6] (fun y m i => ∃ (k n : Nat) (z : Int), i = .int .i64 k ∧ m = .int .i64 n ∧ y = .int .i64 z ∧ k ≤ P.length ∧ n ≤ k ∧ n + dep P (P.length - k) z = depL P x) (fun _ _ i => P.length - (intOf i).toNat)
  case atStart => exact ⟨0, 0, x, rfl, rfl, rfl, by omega, by omega, by simp [depL]⟩
  case round =>
    obtain ⟨k, n, z, rfl, rfl, rfl, hk, hn, hd⟩ := hrel
    have HD := Lib.hid hd
    clear hd
    by_cases hlt : k < P.length
    · by_cases h0 : 0 ≤ z
      · by_cases h1 : z < P.length
        · obtain ⟨bl, off, rfl, hbl, hc⟩ := HR.out (by omega)
          obtain ⟨m, rfl⟩ := Int.eq_ofNat_of_zero_le h0
          obtain ⟨p, hp⟩ := getElem?_lt (show m < P.length by omega)
          have c0 := hc m p hp 0 _ rfl
          simp only [Nat.add_zero, Nat.mul_one] at c0
          have HN := Lib.hid (show n + 1 + dep P (P.length - (k + 1)) p = depL P x from by
            have := HD.out
            rw [show P.length - k = P.length - (k + 1) + 1 by omega, dep_go (by omega) (by simpa using hp)] at this
            omega)
          clear hc hp
          go_wp2
          go_round
          case rel => exact ⟨k + 1, n + 1, p, by go_num, by go_num, rfl, by omega, by omega, HN.out⟩
          case measure => simp [intOf]; omega
        · have HE := Lib.hid (show n = depL P x from by have := HD.out; rw [dep_stop (by omega)] at this; omega)
          go_wp2
          go_ret
          exact ⟨ret_int (by rw [HE.out]), rfl⟩
      · have HE := Lib.hid (show n = depL P x from by have := HD.out; rw [dep_stop (by omega)] at this; omega)
        go_wp2
        go_ret
        exact ⟨ret_int (by rw [HE.out]), rfl⟩
    · have HE := Lib.hid (show n = depL P x from by have := HD.out; rw [show P.length - k = 0 by omega] at this; exact this)
      go_wp2
      go_ret
      exact ⟨ret_int (by rw [HE.out]), rfl⟩
end Go.Proofs.YtkdaiomjbkpedaaGreat
end
section
/- Layer 6, the document's Check, Leaves, Depth. -/
namespace Go.Proofs.YtkdaiomjbkpedaaGreat
open Go.RowKit

set_option maxRecDepth 100000 in
set_option maxHeartbeats 4000000 in
theorem rcheck_any (w : World) (vP vT : Value) (P T : List Int) (hP : RdL w vP 1 encI P) (hT : RdL w vT 1 encI T) :
    Calls Tryz.prog 45 #[.agg #[vP, vT]] w fun e w' => e = .returned (.int .i64 (chkT P T)) ∧ Below w.heap.size w w' := by
  have hb0 : Below w.heap.size w (w.alloc (.cells #[vP, vT] 24)) := (Below.refl _ _).alloc (Nat.le_refl _) _
  have HB := Lib.hid hb0
  have HPb := Lib.hid (hP.alloc (.cells #[vP, vT] 24))
  have HTb := Lib.hid (hT.alloc (.cells #[vP, vT] 24))
  obtain ⟨AP, cP, rfl, lP1, lP2⟩ := rdl_form hP
  obtain ⟨AT, cT, rfl, lT1, lT2⟩ := rdl_form hT
  clear hP hT hb0
  have c0 : (w.alloc (.cells #[.slice AP P.length cP, .slice AT T.length cT] 24)).cell? ⟨w.heap.size, 0, none⟩ = some (.slice AP P.length cP) := by simp [World.cell?_alloc_new]
  have c1 : (w.alloc (.cells #[.slice AP P.length cP, .slice AT T.length cT] 24)).cell? ⟨w.heap.size, 1, none⟩ = some (.slice AT T.length cT) := by simp [World.cell?_alloc_new]
  go_enter Tryz.func45, Tryz.ntmps45
  go_upto_region 1 with fail
  generalize (w.alloc (.cells #[.slice AP P.length cP, .slice AT T.length cT] 24)) = wb at *
  by_cases a1 : P.length < 1
  · have HE := Lib.hid (chk_many (P := P) (T := T) (decide_eq_true (.inl a1)))
    go_wp2
    go_ret
    exact ⟨ret_int HE.out.symm, HB.out⟩
  by_cases a2 : 32 < P.length
  · have HE := Lib.hid (chk_many (P := P) (T := T) (decide_eq_true (.inr (.inl a2))))
    go_wp2
    go_ret
    exact ⟨ret_int HE.out.symm, HB.out⟩
  by_cases a3 : T.length < 1
  · have HE := Lib.hid (chk_many (P := P) (T := T) (decide_eq_true (.inr (.inr (.inl a3)))))
    go_wp2
    go_ret
    exact ⟨ret_int HE.out.symm, HB.out⟩
  by_cases a4 : 32 < T.length
  · have HE := Lib.hid (chk_many (P := P) (T := T) (decide_eq_true (.inr (.inr (.inr a4)))))
    go_wp2
    go_ret
    exact ⟨ret_int HE.out.symm, HB.out⟩
  have HM := Lib.hid (show manyB P T = false from decide_eq_false (by omega))
  have H0 := Lib.hid (rdl_int HPb.out (by omega))
  obtain ⟨p0, hp0⟩ := getElem?_lt (show 0 < P.length by omega)
  obtain ⟨b, off, hA, hb, hc⟩ := H0.out
  subst hA
  have q0 := hc 0 p0 hp0
  simp only [Nat.add_zero] at q0
  have HC := Lib.hid hc
  have HG0 := Lib.hid hp0
  clear hc hp0 H0
  go_upto_region 3 with fail
  by_cases hz : p0 = -1
  · subst hz
    have HT1 := Lib.hid (show (List.range 1).all (okP P) = true from by
      have := getD_of HG0.out
      show (okP P 0 && true) = true
      rw [Bool.and_true]
      exact decide_eq_true ⟨fun _ => this, fun h => absurd h (by omega)⟩)
    go_wp2
    go_loop [3] (fun i => ∃ k : Nat, i = .int .i64 k ∧ 1 ≤ k ∧ k ≤ P.length ∧ (List.range k).all (okP P) = true) (fun i => P.length - (intOf i).toNat)
    case atStart => exact ⟨1, rfl, by omega, by omega, HT1.out⟩
    case round =>
      obtain ⟨k, rfl, hk1, hk, ha⟩ := hrel
      by_cases hlt : k < P.length
      · obtain ⟨p, hp⟩ := getElem?_lt hlt
        have q1 := HC.out k p hp
        have HP := Lib.hid (And.intro (getD_of hp) ha)
        clear hp ha
        by_cases g0 : p < 0
        · have HN := Lib.hid (chk_tree HM.out (all_false hlt (decide_eq_false (by rw [HP.out.1]; omega))))
          go_wp2
          go_ret
          exact ⟨ret_int HN.out.symm, HB.out⟩
        · by_cases g1 : (k : Int) ≤ p
          · have HN := Lib.hid (chk_tree HM.out (all_false hlt (decide_eq_false (by rw [HP.out.1]; omega))))
            go_wp2
            go_ret
            exact ⟨ret_int HN.out.symm, HB.out⟩
          · have HN := Lib.hid (show (List.range (k + 1)).all (okP P) = true from by
              rw [range_all_succ, HP.out.2, Bool.true_and]
              exact decide_eq_true (by rw [HP.out.1]; omega))
            go_wp2
            go_round
            case rel => exact ⟨k + 1, by go_num, by omega, by omega, HN.out⟩
            case measure => simp [intOf]; omega
      · obtain rfl : k = P.length := by omega
        have HTR := Lib.hid (show treeB P = true from ha)
        clear ha
        go_wp2
        go_loop [4, 5] (fun f i => ∃ k : Nat, i = .int .i64 k ∧ k ≤ P.length ∧ f = .int .i64 (first P k : Nat) ∧ evL P (leavesTo P k) = true) (fun _ i => P.length - (intOf i).toNat)
        case atStart => exact ⟨0, rfl, by omega, rfl, rfl⟩
        case round =>
          obtain ⟨k, rfl, hk, rfl, hev⟩ := hrel
          by_cases hlt : k < P.length
          · have HL := Lib.hid (rleaf_any wb _ P k HPb.out)
            have HEV := Lib.hid hev
            clear hev
            cases hlf : leafB P k
            · have HN := Lib.hid (And.intro (first_skip hlf) (show leavesTo P (k + 1) = leavesTo P k from by rw [leavesTo_succ, hlf]; rfl))
              rw [hlf] at HL
              clear hlf
              go_wp2_with (go_at_call 84; refine HL.out.mono ?_; rintro e w' ⟨rfl, rfl⟩)
              go_round
              case rel => exact ⟨k + 1, by go_num, by omega, by rw [HN.out.1], by rw [HN.out.2]; exact HEV.out⟩
              case measure => simp [intOf]; omega
            · have hst := first_step hlt hlf
              rw [HEV.out, Bool.true_and] at hst
              have HD := Lib.hid (rdeep_any wb _ P k HPb.out)
              rw [hlf] at HL
              have hpos := depL_pos hlt
              obtain ⟨d, hd⟩ : ∃ d, d = depL P k := ⟨_, rfl⟩
              obtain ⟨f, hf⟩ : ∃ f, f = first P k := ⟨_, rfl⟩
              rw [← hd] at HD hst hpos
              rw [← hf] at hst ⊢
              have HST := Lib.hid (And.intro hst (And.intro hd hf))
              have hbd : evL P (leavesTo P (k + 1)) = false → chkT P T = 9 := fun h => chk_even HM.out HTR.out (even_bad (by omega) h)
              have HBD := Lib.hid hbd
              clear hst hd hf hbd hlf
              by_cases f0 : f = 0
              · subst f0
                by_cases g1 : 5 < d
                · have HN := Lib.hid (HBD.out (by rw [HST.out.1.2]; exact decide_eq_false (by omega)))
                  go_wp2_with (first | (go_at_call 84; refine HL.out.mono ?_; rintro e w' ⟨rfl, rfl⟩) | (go_at_call 85; refine HD.out.mono ?_; rintro e w' ⟨rfl, rfl⟩))
                  go_ret
                  exact ⟨ret_int HN.out.symm, HB.out⟩
                · have HF := Lib.hid (show first P (k + 1) = d from by rw [HST.out.1.1]; rfl)
                  have HN := Lib.hid (show evL P (leavesTo P (k + 1)) = true from by rw [HST.out.1.2]; exact decide_eq_true ⟨by rw [HF.out], by omega⟩)
                  go_wp2_with (first | (go_at_call 84; refine HL.out.mono ?_; rintro e w' ⟨rfl, rfl⟩) | (go_at_call 85; refine HD.out.mono ?_; rintro e w' ⟨rfl, rfl⟩))
                  go_round
                  case rel => exact ⟨k + 1, by go_num, by omega, by rw [HF.out], HN.out⟩
                  case measure => simp [intOf]; omega
              · have HF := Lib.hid (show first P (k + 1) = f from by rw [HST.out.1.1, if_neg f0])
                have e0 : (f == 0) = false := by simpa using f0
                have e0' : ((f : Int) == 0) = false := by rw [beq_eq_false_iff_ne]; omega
                by_cases g0 : d = f
                · subst g0
                  by_cases g1 : 5 < d
                  · have HN := Lib.hid (HBD.out (by rw [HST.out.1.2]; exact decide_eq_false (by omega)))
                    go_wp2_with (first | (go_at_call 84; refine HL.out.mono ?_; rintro e w' ⟨rfl, rfl⟩) | (go_at_call 85; refine HD.out.mono ?_; rintro e w' ⟨rfl, rfl⟩))
                    go_ret
                    exact ⟨ret_int HN.out.symm, HB.out⟩
                  · have HN := Lib.hid (show evL P (leavesTo P (k + 1)) = true from by rw [HST.out.1.2]; exact decide_eq_true ⟨by rw [HF.out], by omega⟩)
                    go_wp2_with (first | (go_at_call 84; refine HL.out.mono ?_; rintro e w' ⟨rfl, rfl⟩) | (go_at_call 85; refine HD.out.mono ?_; rintro e w' ⟨rfl, rfl⟩))
                    go_round
                    case rel => exact ⟨k + 1, by go_num, by omega, by rw [HF.out], HN.out⟩
                    case measure => simp [intOf]; omega
                · have HN := Lib.hid (HBD.out (by rw [HST.out.1.2]; exact decide_eq_false (by rw [HF.out]; omega)))
                  have e1 : (d != f) = true := by simpa using g0
                  have e1' : ((d : Int) != (f : Int)) = true := by rw [bne_iff_ne]; omega
                  go_wp2_with (first | (go_at_call 84; refine HL.out.mono ?_; rintro e w' ⟨rfl, rfl⟩) | (go_at_call 85; refine HD.out.mono ?_; rintro e w' ⟨rfl, rfl⟩))
                  go_ret
                  exact ⟨ret_int HN.out.symm, HB.out⟩
          · obtain rfl : k = P.length := by omega
            have HEV := Lib.hid (chk_thr (T := T) HM.out HTR.out hev)
            have HT0 := Lib.hid (rdl_int HTb.out (by omega))
            obtain ⟨bt, offt, hAt, hbt, hct⟩ := HT0.out
            subst hAt
            have HCT := Lib.hid hct
            clear hct hev HT0
            go_wp2
            go_loopw [7] (fun i wr => ∃ j : Nat, i = .int .i64 j ∧ j ≤ T.length ∧ (T.take j).all (leafB P) = true ∧ Qt wb wr) (fun i _ => T.length - (intOf i).toNat)
            case atStart => exact ⟨0, rfl, by omega, rfl, Qt.refl _⟩
            case round =>
              obtain ⟨j, rfl, hj, ha, hq⟩ := hrel
              obtain ⟨wq, rfl⟩ : ∃ wq : World, wq = wr := ⟨_, rfl⟩
              have d0 : wq.cell? ⟨w.heap.size, 0, none⟩ = some (.slice (some ⟨b, off, none⟩) P.length cP) := by obtain ⟨n, rfl⟩ := hq; exact c0
              have d1 : wq.cell? ⟨w.heap.size, 1, none⟩ = some (.slice (some ⟨bt, offt, none⟩) T.length cT) := by obtain ⟨n, rfl⟩ := hq; exact c1
              have HQ := Lib.hid hq
              by_cases hlt2 : j < T.length
              · obtain ⟨x, hx⟩ := getElem?_lt hlt2
                have q2 : wq.cell? ⟨bt, offt + j, none⟩ = some (.int .i64 x) := by obtain ⟨n, rfl⟩ := hq; exact HCT.out j x hx
                have HX := Lib.hid (And.intro hx ha)
                have HL := Lib.hid (fun n => (rleaf_any (wq.drewN n) _ P x ((HPb.out.qt HQ.out).drewN n)).mono fun _ _ h => And.intro h.1 h.2.symm)
                clear hx ha hq
                cases hlf : leafB P x
                · have HN := Lib.hid (show chkT P T = 4 from by
                    rw [HEV.out, if_neg]
                    intro h
                    unfold thrB at h
                    rw [List.all_eq_true] at h
                    rw [h x (List.mem_of_getElem? HX.out.1)] at hlf
                    cases hlf)
                  rw [hlf] at HL
                  clear hlf
                  go_wp2_with fail
                  go_quiet ((go_at_call 84; exact Calls.quiet_of_same (HL.out _)))
                  go_wp2
                  go_ret
                  exact ⟨ret_int HN.out.symm, below_drewN (HB.out.trans ((HQ.out.below _).mono HB.out.size)) _⟩
                · have HN := Lib.hid (show (T.take (j + 1)).all (leafB P) = true from by
                    rw [take_succ_of HX.out.1, List.all_append, HX.out.2]; simp [hlf])
                  rw [hlf] at HL
                  clear hlf
                  go_wp2_with fail
                  go_quiet ((go_at_call 84; exact Calls.quiet_of_same (HL.out _)))
                  go_wp2
                  go_roundw
                  case rel => exact ⟨j + 1, by go_num, by omega, HN.out, HQ.out.trans ⟨_, rfl⟩⟩
                  case measure => simp [intOf]; omega
              · obtain rfl : j = T.length := by omega
                rw [List.take_length] at ha
                have HN := Lib.hid (show chkT P T = 0 from by rw [HEV.out, if_pos (show thrB P T = true from ha)])
                clear ha hq
                go_wp2
                go_ret
                exact ⟨ret_int HN.out.symm, HB.out.trans ((HQ.out.below _).mono HB.out.size)⟩
  · have HN := Lib.hid (chk_tree (P := P) HM.out (all_false (k := 0) (by omega) (decide_eq_false (by rw [getD_of HG0.out]; omega))))
    have e1 : (p0 != -1) = true := by simpa using hz
    clear hz
    go_wp2
    go_ret
    exact ⟨ret_int HN.out.symm, HB.out⟩
end Go.Proofs.YtkdaiomjbkpedaaGreat
end
section
/- Layer 29 (hclh): a lock of one's own, call by call; what the law's helpers do. -/
namespace Go.Proofs.YtkdaiomjbkpedaaGreat
open Go.RowKit

theorem HOk.cond {nd n N : Nat} {dl : Int} {node : Nat → Nat} {h : Hc} {G : Nat → List Nat} (k : HOk nd n dl node h N G) (hN : N < 1000000) (hd : dl ≤ 3) : HCond h := by
  refine ⟨by have := k.ops; omega, fun j p hp => ?_⟩
  have hj : j < n := by rw [← k.iv.sl]; exact (List.getElem?_eq_some_iff.1 hp).1
  have e : sv h.S j = p := by unfold sv; rw [List.getD_eq_getElem?_getD, hp]; rfl
  subst e
  have hn := k.iv.n32
  refine ⟨⟨k.iv.d0 j, by have := k.dn j; omega⟩, fun h2 => ?_, fun h5 => ?_⟩
  · have h1 := k.bb j hj h2
    have h3 := k.iv.at234 hj (.inl h2)
    rcases k.iv.mast j (ne_of_head h3) with ⟨h4 | h4, _⟩ | ⟨h4, _⟩ <;> omega
  · rcases k.iv.at5 hj h5 with ⟨q, p, _, hp, ha⟩ | ⟨_, t, d, ht, h1, h2, ha⟩
    · rw [ha]
      have := k.iv.d0 p
      have := k.dn p
      have := k.iv.lt _ _ hp
      unfold tokH; omega
    · rw [ha]
      have := k.dn t
      unfold tokH; omega
def smallB (P T : List Int) (m : Int) : Bool := decide (chkT P T = 0 ∧ (T.length : Int) ≤ m)
set_option maxHeartbeats 1000000 in
theorem smallH (w : World) (vP vT : Value) (P T : List Int) (hP : RdL w vP 1 encI P) (hT : RdL w vT 1 encI T) (m : Int) :
    Calls Tryz.prog 13 #[.agg #[vP, vT], .int .i64 m] w fun e w' => e = .returned (.bool (smallB P T m)) ∧ Below w.heap.size w w' := by
  have HC := Lib.hid (rcheck_any (w.alloc (.cells #[vP, vT] 24)) vP vT P T (hP.alloc _) (hT.alloc _))
  have HB0 := Lib.hid ((Below.refl w.heap.size w).alloc (Nat.le_refl _) (.cells #[vP, vT] 24))
  obtain ⟨AP, cP, rfl, lP1, lP2⟩ := rdl_form hP
  obtain ⟨AT, cT, rfl, lT1, lT2⟩ := rdl_form hT
  have hX : (w.alloc (.cells #[.slice AP P.length cP, .slice AT T.length cT] 24)).cell? ⟨w.heap.size, 1, none⟩ = some (.slice AT T.length cT) := by simp [World.cell?_alloc_new]
  have hbx : w.heap.size < (w.alloc (.cells #[.slice AP P.length cP, .slice AT T.length cT] 24)).heap.size := by simp
  clear hP hT
  by_cases hc : chkT P T = 0
  · have t0 : (chkT P T == 0) = true := by simpa using hc
    have HS : Hid (smallB P T m = decide ((T.length : Int) ≤ m)) := Lib.hid (by unfold smallB; simp [hc])
    clear hc
    go_enter Tryz.func13, Tryz.ntmps13
    go_wp2_with fail
    refine HC.out.mono ?_
    rintro en w1 ⟨rfl, b1⟩
    have f1 := (b1.cell (p := ⟨w.heap.size, 1, none⟩) hbx).trans hX
    have HB1 := Lib.hid (HB0.out.trans (b1.mono HB0.out.size))
    clear b1 hX hbx
    go_wp2
    go_ret
    rw [HS.out]
    exact ⟨rfl, HB1.out⟩
  · have t0 : (chkT P T == 0) = false := by simpa using hc
    have HS : Hid (smallB P T m = false) := Lib.hid (by unfold smallB; simp [hc])
    clear hc hX hbx
    go_enter Tryz.func13, Tryz.ntmps13
    go_wp2_with fail
    refine HC.out.mono ?_
    rintro en w1 ⟨rfl, b1⟩
    have HB1 := Lib.hid (HB0.out.trans (b1.mono HB0.out.size))
    clear b1
    go_wp2
    go_ret
    rw [HS.out]
    exact ⟨rfl, HB1.out⟩
structure HSt (w0 w : World) (l a g q b u lo hi : Nat) (d : Int) (P T : List Int) (h : Hc) (N : Nat) (G : Nat → List Nat) : Prop where
  is : HcIs w l a g q b u lo hi d P T h
  ok : HOk (leavesL P).length T.length d (nodeN P T) h N G
  bel : Below w0.heap.size w0 w
  hl : ∀ x ∈ [l, a, g, q, u], w0.heap.size ≤ x
  d0 : 0 ≤ d ∧ d ≤ 3
section
variable {w0 w w' : World} {l a g q b u lo hi : Nat} {d : Int} {P T : List Int} {h h' : Hc} {N M : Nat} {G G' : Nat → List Nat}
theorem HSt.below (s : HSt w0 w l a g q b u lo hi d P T h N G) (k : Below w.heap.size w w') : HSt w0 w' l a g q b u lo hi d P T h N G :=
  ⟨s.is.below k, s.ok, s.bel.trans (k.mono s.bel.size), s.hl, s.d0⟩
theorem HSt.next (s : HSt w0 w l a g q b u lo hi d P T h N G) (k : Turns [a, g, q, u] w w') (hI : HcIs w' l a g q b u lo hi d P T h') (ho : HOk (leavesL P).length T.length d (nodeN P T) h' M G') : HSt w0 w' l a g q b u lo hi d P T h' M G' :=
  ⟨hI, ho, s.bel.trans (k.below (fun i hm => s.hl i (List.mem_cons_of_mem _ hm)) s.bel.size), s.hl, s.d0⟩
def actV2 (k i : Int) : Value := .agg #[.int .i64 k, .int .i64 i]
set_option maxHeartbeats 1000000 in
theorem doHl (s : HcIs w l a g q b u lo hi d P T h) (C : HCond h) (k i : Int) :
    Calls Tryz.prog 15 #[.pointer (some ⟨l, 0, none⟩), actV2 k i] w (HOp w l a g q b u lo hi d P T (actH (leavesL P).length T.length d (nodeN P T) h k i)) := by
  have hb : Below w.heap.size w (w.alloc (.cells #[.int .i64 k, .int .i64 i] 33)) := (Below.refl _ _).alloc (Nat.le_refl _) _
  have HW := Lib.hid (And.intro (s.below hb) hb)
  have HC := Lib.hid C
  clear s hb C
  unfold actV2
  obtain ⟨x, hx⟩ : ∃ x, x = actH (leavesL P).length T.length d (nodeN P T) h k i := ⟨_, rfl⟩
  rw [← hx]
  by_cases k0 : k = 0
  · have e : x = stepH (leavesL P).length T.length d (nodeN P T) h i := by rw [hx]; unfold actH; rw [if_pos k0]
    have HX := Lib.hid e
    clear e hx
    subst k0
    go_enter Tryz.func15, Tryz.ntmps15
    go_wp2_with fail
    refine (stepHl HW.out.1 i HC.out).mono ?_
    rw [← HX.out]
    rintro en w1 ⟨rfl, h1, t1⟩
    have H1 := Lib.hid (And.intro h1 ((Turns.of_below (S := [a, g, q, u]) HW.out.2).trans t1))
    clear h1 t1 HX
    obtain ⟨r', bb⟩ := x
    go_wp2
    go_ret
    exact ⟨rfl, H1.out.1, H1.out.2⟩
  · by_cases k1 : k = 1
    · have e : x = beginH h i 0 1 := by rw [hx]; unfold actH; rw [if_neg k0, if_pos k1]
      have HX := Lib.hid e
      clear e hx
      subst k1
      clear k0
      go_enter Tryz.func15, Tryz.ntmps15
      go_wp2_with fail
      refine (askHc HW.out.1 i).mono ?_
      rw [← HX.out]
      rintro en w1 ⟨rfl, h1, t1⟩
      have H1 := Lib.hid (And.intro h1 ((Turns.of_below (S := [a, g, q, u]) HW.out.2).trans t1))
      clear h1 t1 HX
      obtain ⟨r', bb⟩ := x
      go_wp2
      go_ret
      exact ⟨rfl, H1.out.1, H1.out.2⟩
    · by_cases k2 : k = 2
      · have e : x = beginH h i 10 11 := by rw [hx]; unfold actH; rw [if_neg k0, if_neg k1, if_pos k2]
        have HX := Lib.hid e
        clear e hx
        subst k2
        clear k0 k1
        go_enter Tryz.func15, Tryz.ntmps15
        go_wp2_with fail
        refine (leaveHc HW.out.1 i).mono ?_
        rw [← HX.out]
        rintro en w1 ⟨rfl, h1, t1⟩
        have H1 := Lib.hid (And.intro h1 ((Turns.of_below (S := [a, g, q, u]) HW.out.2).trans t1))
        clear h1 t1 HX
        obtain ⟨r', bb⟩ := x
        go_wp2
        go_ret
        exact ⟨rfl, H1.out.1, H1.out.2⟩
      · have e : x = (h, false) := by rw [hx]; unfold actH; rw [if_neg k0, if_neg k1, if_neg k2]
        have u0 : (k == 0) = false := by simpa using k0
        have u1 : (k == 1) = false := by simpa using k1
        have u2 : (k == 2) = false := by simpa using k2
        clear k0 k1 k2 hx
        subst e
        go_enter Tryz.func15, Tryz.ntmps15
        go_wp2
        go_ret
        exact ⟨rfl, HW.out.1, Turns.of_below HW.out.2⟩
/-- an act of a lock of one's own -/
theorem doSt (s : HSt w0 w l a g q b u lo hi d P T h N G) (hN : N < 1000000) (k i : Int) :
    Calls Tryz.prog 15 #[.pointer (some ⟨l, 0, none⟩), actV2 k i] w fun e w' => ∃ c h' G', h' = (actH (leavesL P).length T.length d (nodeN P T) h k i).1 ∧ e = .returned (.bool c) ∧ HSt w0 w' l a g q b u lo hi d P T h' (N + 1) G' ∧ ActR T.length (nodeN P T) h.S h'.S i (G 0) (G' 0) ∧ h'.ar.ops ≤ h.ar.ops + 1 ∧ (k ≠ 0 → h'.ar.ops = h.ar.ops) := by
  refine (doHl s.is (s.ok.cond hN s.d0.2) k i).mono ?_
  rintro e w' ⟨he, hi, t⟩
  obtain ⟨G', ho, hr, h1, h2⟩ := s.ok.act hN k i
  exact ⟨_, _, G', rfl, he, s.next t hi ho, hr, h1, h2⟩
end
/-- a topology that may not be, or has too many threads -/
def SmNo (w : World) (vP vT : Value) (m : Int) : Prop := ∀ W, Below w.heap.size w W → Calls Tryz.prog 13 #[.agg #[vP, vT], .int .i64 m] W fun e w' => e = .returned (.bool false) ∧ Below W.heap.size W w'
theorem SmNo.of {w : World} {vP vT : Value} {P T : List Int} {m : Int} (hP : RdL w vP 1 encI P) (hT : RdL w vT 1 encI T) (hs : smallB P T m = false) : SmNo w vP vT m := fun W b => by
  have := smallH W vP vT P T (hP.below b (Nat.le_refl _)) (hT.below b (Nat.le_refl _)) m
  rw [hs] at this
  exact this
theorem SmNo.below {w w' : World} {vP vT : Value} {m : Int} (h : SmNo w vP vT m) (b : Below w.heap.size w w') : SmNo w' vP vT m := fun W k => h W (b.trans (k.mono b.size))
set_option maxRecDepth 100000 in
theorem rcheck_raw (w : World) (AP AT : Option Addr) (nP cP nT cT : Nat) (h : 32 < nP ∨ 32 < nT) (h1 : nP ≤ 9223372036854775807) (h2 : nT ≤ 9223372036854775807) :
    Calls Tryz.prog 45 #[.agg #[.slice AP nP cP, .slice AT nT cT]] w fun e w' => e = .returned (.int .i64 8) ∧ Below w.heap.size w w' := by
  have HB := Lib.hid ((Below.refl w.heap.size w).alloc (Nat.le_refl _) (.cells #[.slice AP nP cP, .slice AT nT cT] 24))
  have c0 : (w.alloc (.cells #[.slice AP nP cP, .slice AT nT cT] 24)).cell? ⟨w.heap.size, 0, none⟩ = some (.slice AP nP cP) := by simp [World.cell?_alloc_new]
  have c1 : (w.alloc (.cells #[.slice AP nP cP, .slice AT nT cT] 24)).cell? ⟨w.heap.size, 1, none⟩ = some (.slice AT nT cT) := by simp [World.cell?_alloc_new]
  go_enter Tryz.func45, Tryz.ntmps45
  go_upto_region 1 with fail
  generalize (w.alloc (.cells #[.slice AP nP cP, .slice AT nT cT] 24)) = wb at *
  by_cases a1 : nP < 1
  · go_wp2
    go_ret
    exact ⟨rfl, HB.out⟩
  by_cases a2 : 32 < nP
  · go_wp2
    go_ret
    exact ⟨rfl, HB.out⟩
  have a4 : 32 < nT := by omega
  have a3 : ¬ nT < 1 := by omega
  clear h
  go_wp2
  go_ret
  exact ⟨rfl, HB.out⟩
theorem SmNo.raw (w : World) (AP AT : Option Addr) (nP cP nT cT : Nat) (m : Int) (h : 32 < nP ∨ 32 < nT) (h1 : nP ≤ 9223372036854775807) (h2 : nT ≤ 9223372036854775807) : SmNo w (.slice AP nP cP) (.slice AT nT cT) m := fun W _ => by
  have HC := Lib.hid (fun w => rcheck_raw w AP AT nP cP nT cT h h1 h2)
  have HB0 := Lib.hid ((Below.refl W.heap.size W).alloc (Nat.le_refl _) (.cells #[.slice AP nP cP, .slice AT nT cT] 24))
  clear h h1 h2
  go_enter Tryz.func13, Tryz.ntmps13
  go_wp2_with fail
  refine (HC.out _).mono ?_
  rintro en w1 ⟨rfl, b1⟩
  have HB1 := Lib.hid (HB0.out.trans (b1.mono HB0.out.size))
  clear b1
  go_wp2
  go_ret
  exact ⟨rfl, HB1.out⟩
theorem madeNo (w : World) (vP vT : Value) (n0 : Nat) (hs : SmNo w vP vT 8) :
    Calls Tryz.prog 12 #[.agg #[vP, vT], .int .u8 n0] w fun e w' => e = .returned (.tuple #[.pointer none, .pointer none, .bool false]) ∧ Below w.heap.size w w' := by
  have HB0 := Lib.hid ((Below.refl w.heap.size w).alloc (Nat.le_refl _) (.cells #[vP, vT] 24))
  have H := Lib.hid (hs _ HB0.out)
  clear hs
  go_enter Tryz.func12, Tryz.ntmps12
  go_wp2_with fail
  refine H.out.mono ?_
  rintro en w1 ⟨rfl, b1⟩
  have HB1 := Lib.hid (HB0.out.trans (b1.mono HB0.out.size))
  clear b1
  go_wp2
  go_ret3
  exact ⟨rfl, HB1.out⟩
set_option maxRecDepth 100000 in
set_option maxHeartbeats 1000000 in
theorem madeYes (w : World) (vP vT : Value) (P T : List Int) (hP : RdL w vP 1 encI P) (hT : RdL w vT 1 encI T) (n0 : Nat) (hn0 : n0 < 256) (hs : smallB P T 8 = true) :
    Calls Tryz.prog 12 #[.agg #[vP, vT], .int .u8 n0] w fun e w' => ∃ l a g q b u lo hi d h G, e = .returned (.tuple #[.pointer (some ⟨a, 0, none⟩), .pointer (some ⟨l, 0, none⟩), .bool true]) ∧ HSt w w' l a g q b u lo hi d P T h 0 G ∧ h.S = List.replicate T.length Sp.zero ∧ G = fun _ => [] := by
  have hck : chkT P T = 0 ∧ (T.length : Int) ≤ 8 := of_decide_eq_true hs
  have HS := smallH (w.alloc (.cells #[vP, vT] 24)) vP vT P T (hP.alloc _) (hT.alloc _) 8
  rw [hs] at HS
  have H := Lib.hid HS
  have HB0 := Lib.hid ((Below.refl w.heap.size w).alloc (Nat.le_refl _) (.cells #[vP, vT] 24))
  have HRD := Lib.hid (And.intro hP hT)
  have hX : (w.alloc (.cells #[vP, vT] 24)).cell? ⟨w.heap.size, 0, none⟩ = some vP ∧ (w.alloc (.cells #[vP, vT] 24)).cell? ⟨w.heap.size, 1, none⟩ = some vT := by simp [World.cell?_alloc_new]
  have HX := Lib.hid hX
  have hbx : w.heap.size < (w.alloc (.cells #[vP, vT] 24)).heap.size := by simp
  have hq0 : (0 : Int) ≤ (n0 : Int) % 4 ∧ (n0 : Int) % 4 < 4 := by omega
  have HCK := Lib.hid hck
  clear HS hs hP hT hX hck
  go_enter Tryz.func12, Tryz.ntmps12
  go_wp2_with fail
  refine H.out.mono ?_
  rintro en w1 ⟨rfl, b1⟩
  have HB1 := Lib.hid (And.intro (HB0.out.trans (b1.mono HB0.out.size)) b1)
  clear b1
  go_wp2_with fail
  refine (newA_any _ 4096).mono ?_
  rintro en w2 ⟨a, g, rfl, hA, ha, hg, hb⟩
  have f0 : w2.cell? ⟨w.heap.size, 0, none⟩ = some vP := (hb.cell (p := ⟨w.heap.size, 0, none⟩) (Nat.lt_of_lt_of_le hbx HB1.out.2.size)).trans ((HB1.out.2.cell (p := ⟨w.heap.size, 0, none⟩) hbx).trans HX.out.1)
  have f1 : w2.cell? ⟨w.heap.size, 1, none⟩ = some vT := (hb.cell (p := ⟨w.heap.size, 1, none⟩) (Nat.lt_of_lt_of_le hbx HB1.out.2.size)).trans ((HB1.out.2.cell (p := ⟨w.heap.size, 1, none⟩) hbx).trans HX.out.2)
  have HA := Lib.hid (And.intro hA (And.intro ha (And.intro hg (HB1.out.1.trans (hb.mono HB1.out.1.size)))))
  clear hA ha hg hb
  go_wp2_with fail
  have B2 := HA.out.2.2.2
  refine (newHc HA.out.1 rfl HA.out.1.ne vP vT P T (HRD.out.1.below B2 (Nat.le_refl _)) (HRD.out.2.below B2 (Nat.le_refl _)) HCK.out.1 ((n0 : Int) % 4) (by omega) (by omega) rfl).mono ?_
  rintro en w3 ⟨l, q, b, u, lo, hi, rfl, k3, hl, hq, hbb, hu, t3⟩
  have HK := Lib.hid (And.intro k3 (And.intro hl (And.intro hq (And.intro hu t3))))
  clear B2 k3 hl hq hbb hu t3 f0 f1
  go_wp2
  go_ret3
  have s1 := HB1.out.1.size
  have s2 := HA.out.2.2.2.size
  have s3 := HK.out.2.1
  have s4 := HK.out.2.2.1
  have s5 := HK.out.2.2.2.1
  have s6 := HA.out.2.1
  have s7 := HA.out.2.2.1
  have hlT := HCK.out.2
  refine ⟨l, a, g, q, b, u, lo, hi, _, _, _, rfl, ⟨HK.out.1, ?_, ?_, ?_, ?_⟩, rfl, rfl⟩
  · exact HOk.start _ (by omega) (fun t ht => (nodeN_at HK.out.1 ht).2) rfl rfl
  · exact HA.out.2.2.2.trans (HK.out.2.2.2.2.below (by simp; omega) s2)
  · simp; omega
  · omega
end Go.Proofs.YtkdaiomjbkpedaaGreat
end
