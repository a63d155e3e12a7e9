/- Layer 26: the walk of RungOne. -/
import Derived.Test.YthgpjiebeinamaaRgO4
import Derived.Test.YthgpjiebeinamaaRgP
import Derived.Test.YthgpjiebeinamaaRgG2
import Derived.Test.YthgpjiebeinamaaSameI
import Derived.Test.YthgpjiebeinamaaOpen2
import Derived.Maps.AppendAt
import Derived.Deep.DeepCutAuto
namespace Go.Proofs.Ythgpjiebeinamaa
open Go.RowKit

theorem longO (w : World) (n0 : Int) (A : Option Addr) (m c : Nat) (h1 : 100 < m) (h2 : m ≤ 9223372036854775807) :
    Calls Try.prog 4 #[.int .u8 n0, .slice A m c] w fun e w' => e = .returned (.bool true) ∧ Below w.heap.size w w' := by
  go_enter Try.func4, Try.ntmps4
  go_wp2_with fail
  refine (awake26 _).mono ?_
  rintro en w1 ⟨rfl, hb⟩
  go_wp2
  go_ret
  exact ⟨rfl, hb⟩
theorem sv_zero (n i : Nat) : sv (List.replicate n Sp.zero) i = Sp.zero := by
  unfold sv
  rw [List.getD_eq_getElem?_getD, List.getElem?_replicate]
  split <;> rfl
theorem one_init (room n : Nat) : OneInv n (newR room n) [] [] [] := by
  refine ⟨⟨by simp [newR], by simp [newR], by simp, by simp, ?_, ?_, by simp, by simp, by simp⟩, rfl⟩
  · simp [newR, tlv, lastW]
  · intro i hi _
    show (0 ≤ (sv (List.replicate n Sp.zero) i).pc ∧ _) ∧ _
    rw [show (newR room n).S = List.replicate n Sp.zero from rfl, sv_zero]
    refine ⟨⟨by decide, by decide⟩, fun h => ?_, fun h => ?_⟩
    · exact absurd h (by decide)
    · exact absurd h (by decide)
theorem Try.infoInO : (Try.prog.info? 3).map (fun i => (i.zero, i.size, i.bytes)) = some (some (.int .i64 0), 1, 8) := by kernel_rfl
theorem one_int (x : Int) : ∀ u ∈ [Value.int .i64 x], u.oneCell' = true := by simp [Value.oneCell']
def encN (l : List Nat) : List Value := l.map fun (j : Nat) => Value.int .i64 (j : Int)
structure OneW (w0 w : World) (l a g q sl : Nat) (r : Rg) (Q D H : List Nat) (vd vh : Value) (k : Nat) : Prop where
  st : St w0 w l a g q 1 r k
  inv : OneInv sl r Q D H
  od : w.ownsRow w0.heap.size 3 1 vd D.length (encN D)
  oh : w.ownsRow w0.heap.size 3 1 vh H.length (encN H)
  dl : D.length ≤ k
  hl : H.length ≤ k
  ne : ∀ b, vd.ownBlock = some b → vh.ownBlock ≠ some b
  dd : ∀ b, vd.ownBlock = some b → b ∉ [l, a, g, q]
  hd : ∀ b, vh.ownBlock = some b → b ∉ [l, a, g, q]
/-- the lists of the doors and of who held, in the walk -/
structure CutW (w0 w : World) (l a g q : Nat) (r : Rg) (D H : List Nat) (vd vh : Value) (N : Nat) : Prop where
  st : St w0 w l a g q 1 r N
  od : w.ownsRow w0.heap.size 3 1 vd D.length (encN D)
  oh : w.ownsRow w0.heap.size 3 1 vh H.length (encN H)
  ne : ∀ b, vd.ownBlock = some b → vh.ownBlock ≠ some b
  dd : ∀ b, vd.ownBlock = some b → b ∉ [l, a, g, q]
  hd : ∀ b, vh.ownBlock = some b → b ∉ [l, a, g, q]
theorem CutW.swap {w0 w : World} {l a g q : Nat} {r : Rg} {D H : List Nat} {vd vh : Value} {N : Nat} (h : CutW w0 w l a g q r D H vd vh N) : CutW w0 w l a g q r H D vh vd N :=
  ⟨h.st, h.oh, h.od, fun b h1 h2 => h.ne b h2 h1, h.hd, h.dd⟩
theorem CutW.below {w0 w w' : World} {l a g q : Nat} {r : Rg} {D H : List Nat} {vd vh : Value} {N : Nat} (h : CutW w0 w l a g q r D H vd vh N) (k : Below w.heap.size w w') : CutW w0 w' l a g q r D H vd vh N :=
  ⟨h.st.below k, Turns.own h.od (Turns.of_below (S := []) k) (fun _ _ => by simp), Turns.own h.oh (Turns.of_below (S := []) k) (fun _ _ => by simp), h.ne, h.dd, h.hd⟩
theorem st_turns {w0 w w' : World} {l a g q : Nat} {t : Int} {r : Rg} {N : Nat} {T : List Nat} (h : St w0 w l a g q t r N) (k : Turns T w w') (hT : ∀ b ∈ T, b ∉ [l, a, g, q] ∧ w0.heap.size ≤ b) : St w0 w' l a g q t r N := by
  have hn : ∀ x, x ∈ [l, a, g, q] → x ∉ T := fun x hx hT' => (hT x hT').1 hx
  exact ⟨h.rg.turns k (hn l (by simp)) (hn a (by simp)) (hn g (by simp)) (hn q (by simp)), h.bel.trans (k.below (fun i hi => (hT i hi).2) h.bel.size), h.hl, h.ha, h.hg, h.hq, h.ok, h.ops⟩
theorem encN_flat (l : List Nat) : encN l = (l.map fun (j : Nat) => (j : Int)).flatMap encI := by
  induction l with
  | nil => rfl
  | cons a l ih => rw [List.map_cons, List.flatMap_cons, ← ih]; rfl
theorem own_ints {w : World} {base : Nat} {v : Value} {l : List Nat} (h : w.ownsRow base 3 1 v l.length (encN l)) (hl : l.length ≤ 140737488355328) : RdL w v 1 encI (l.map fun (j : Nat) => (j : Int)) := by
  rw [encN_flat] at h
  exact RdL.of_own encI_len (by simp) (by simpa using hl) h
theorem rdl_head {α : Type} {enc : α → List Value} {sz : Nat} {w : World} {A : Option Addr} {n cap : Nat} {l : List α} (h : RdL w (.slice A n cap) sz enc l) (m : Nat) (hm : m ≤ n) : RdL w (.slice A m cap) sz enc (l.take m) := by
  obtain ⟨A', cap', h1, h2, h3, h4⟩ := h
  injection h1 with e1 e2 e3
  subst e1 e2 e3
  have hl : (l.take m).length = m := by simp; omega
  refine ⟨A, cap, by rw [hl], by omega, by omega, fun hn => ?_⟩
  obtain ⟨b, off, e, hb, hc⟩ := h4 (by omega)
  exact ⟨b, off, e, hb, fun i x hx => hc i x (by rw [List.getElem?_take] at hx; split at hx; exact hx; cases hx)⟩
theorem own_cap {w : World} {base : Nat} {e : TypeId} {sz : Nat} {A : Option Addr} {n c : Nat} {xs : List Value} (h : w.ownsRow base e sz (.slice A n c) n xs) : n ≤ c := by
  rcases h.2 with ⟨h1, h0⟩ | ⟨g, cap, cur, h1, hb, hg, hnc, _⟩
  · omega
  · injection h1 with _ _ h1
    omega
theorem enc_snoc (D : List Nat) (i : Nat) : encN (D ++ [i]) = encN D ++ [.int .i64 (i : Int)] := by simp [encN]
theorem rgis_lt {w : World} {l a g q : Nat} {t : Int} {r : Rg} (h : RgIs w l a g q t r) : l < w.heap.size := h.lk.lt
/-- one more is written into the first list -/
theorem CutW.app {w0 w w' : World} {l a g q : Nat} {r : Rg} {D H : List Nat} {vd vh v' : Value} {N : Nat} (h : CutW w0 w l a g q r D H vd vh N) (i : Nat)
    (hall : ∀ x ∈ [l, a, g, q], x < w.heap.size)
    (hown : w'.ownsRow w0.heap.size 3 1 v' (D.length + 1) (encN D ++ [.int .i64 (i : Int)])) (hg : w.grownBy w' vd.ownBlock) (hat : v'.ownBlock = vd.ownBlock ∨ ∃ b, w.heap.size ≤ b ∧ v'.ownBlock = some b) :
    CutW w0 w' l a g q r (D ++ [i]) H v' vh N := by
  have hb0 := h.st.bel.size
  obtain ⟨T, hT, hTm⟩ : ∃ T, Turns T w w' ∧ ∀ b ∈ T, vd.ownBlock = some b := by
    cases hv : vd.ownBlock with
    | none =>
      rw [hv] at hg
      exact ⟨[], ⟨hg.os, hg.tape, hg.output, hg.size, fun i hi _ => hg.block i hi (by simp)⟩, by simp⟩
    | some b =>
      rw [hv] at hg
      exact ⟨[b], Turns.grown hg, by simp⟩
  have hlt : ∀ b, vh.ownBlock = some b → b < w.heap.size := fun b hb => (h.oh.lt b hb).2
  have hap : ∀ b, v'.ownBlock = some b → vd.ownBlock = some b ∨ w.heap.size ≤ b := fun b hb => by
    rcases hat with e | ⟨c, hc, e⟩
    · exact .inl (by rw [← e]; exact hb)
    · rw [e] at hb; injection hb with hb; exact .inr (by omega)
  refine ⟨st_turns h.st hT (fun b hb => ⟨h.dd b (hTm b hb), (h.od.lt b (hTm b hb)).1⟩), ?_, Turns.own h.oh hT (fun b hb hT' => h.ne b (hTm b hT') hb), fun b hb hb' => ?_, fun b hb hm => ?_, h.hd⟩
  · rw [enc_snoc, List.length_append]; exact hown
  · rcases hap b hb with e | e
    · exact h.ne b e hb'
    · have := hlt b hb'; omega
  · rcases hap b hb with e | e
    · exact h.dd b e hm
    · have := hall b hm; omega
theorem OneW.cut {w0 w : World} {l a g q sl : Nat} {r : Rg} {Q D H : List Nat} {vd vh : Value} {k : Nat} (h : OneW w0 w l a g q sl r Q D H vd vh k) : CutW w0 w l a g q r D H vd vh k := ⟨h.st, h.od, h.oh, h.ne, h.dd, h.hd⟩
/-- the lock has turned, the lists have not -/
theorem CutW.next {w0 w w' : World} {l a g q : Nat} {r r' : Rg} {D H : List Nat} {vd vh : Value} {N M : Nat} (h : CutW w0 w l a g q r D H vd vh N) (k : Turns [a, g, q] w w') (hs : St w0 w' l a g q 1 r' M) : CutW w0 w' l a g q r' D H vd vh M :=
  ⟨hs, Turns.own h.od k (fun b hb hm => h.dd b hb (List.mem_cons_of_mem _ hm)), Turns.own h.oh k (fun b hb hm => h.hd b hb (List.mem_cons_of_mem _ hm)), h.ne, h.dd, h.hd⟩
theorem CutW.all {w0 w : World} {l a g q : Nat} {r : Rg} {D H : List Nat} {vd vh : Value} {N : Nat} (h : CutW w0 w l a g q r D H vd vh N) : ∀ x ∈ [l, a, g, q], x < w.heap.size := by
  have h1 := h.st.rg.lk.lt
  have h2 := h.st.rg.ar.blk.lt
  have h3 := h.st.rg.ar.wds.lt
  have h4 : q < w.heap.size := Blk.lt h.st.rg.sp
  intro x hx
  simp only [List.mem_cons, List.not_mem_nil, or_false] at hx
  rcases hx with rfl | rfl | rfl | rfl <;> assumption
set_option maxRecDepth 100000 in
set_option maxHeartbeats 8000000 in
theorem one26 (w : World) (n0 : Nat) (hn0 : n0 < 256) (v : Value) (ls : List (Int × Int × Int)) (h : RdL w v 3 encT ls) (hl100 : ls.length ≤ 100) :
    Calls Try.prog 4 #[.int .u8 n0, v] w fun e w' => e = .returned (.bool true) ∧ Below w.heap.size w w' := by
  obtain ⟨A, cap, rfl, l1, l2, hr⟩ := h
  have HR := Lib.hid hr
  clear hr
  obtain ⟨sl, hsl⟩ : ∃ sl : Nat, sl = 1 + n0 % 8 := ⟨_, rfl⟩
  have hs1 : 1 ≤ sl ∧ sl ≤ 8 := by omega
  have hsi : (1 : Int) + (n0 : Int) % 8 = (sl : Int) := by omega
  have hq0 : (0 : Int) ≤ (n0 : Int) % 8 ∧ (n0 : Int) % 8 < 8 := by omega
  clear hsl
  have hfp := field_pc
  obtain ⟨i0, i0a, i0b, i0c, i0d⟩ := info_parts Try.infoInO
  have i0p := Lib.hid (And.intro i0a (And.intro i0b (And.intro i0c i0d)))
  clear i0a i0b i0c i0d
  go_enter Try.func4, Try.ntmps4
  go_wp2_with fail
  refine (newA_any _ 20).mono ?_
  rintro en wa ⟨a, g, rfl, hA, ha, hg, hb⟩
  have HA := Lib.hid (And.intro hA (And.intro ha (And.intro hg hb)))
  clear hA ha hg hb
  go_wp2_with fail
  refine (newSt_of (n := sl) HA.out.1 HA.out.2.2.2 HA.out.2.1 HA.out.2.2.1 (by omega) (by omega) (by show 2 * sl + 1 ≤ 20; omega)).mono ?_
  rintro en w0 ⟨l, q, rfl, h⟩
  have H0 := Lib.hid h
  clear h
  go_wp2
  go_loopw [9, 10, 11] (fun d h i wr => ∃ (k : Nat) (r : Rg) (Q D H : List Nat), i = .int .i64 k ∧ k ≤ ls.length ∧ OneW w wr l a g q sl r Q D H d h k) (fun _ _ i _ => ls.length - (intOf i).toNat)
  case atStart => exact ⟨0, _, [], [], [], rfl, by omega, H0.out, one_init _ _, World.ownsRow_nil _ _ _ _, World.ownsRow_nil _ _ _ _, by simp, by simp, by simp [Value.ownBlock], by simp [Value.ownBlock], by simp [Value.ownBlock]⟩
  case round =>
    clear HA H0
    obtain ⟨k, r, Q, D, H, rfl, hk, hW⟩ := hrel
    obtain ⟨wo, rfl⟩ : ∃ wo : World, wo = wr := ⟨_, rfl⟩
    have hlo := hW.st.bel.size
    have HW := Lib.hid hW
    clear hW
    by_cases hlt : k < ls.length
    · obtain ⟨bl, off, rfl, hbl, hc⟩ := HR.out (by omega)
      obtain ⟨⟨kd, ii, vv⟩, hx⟩ := getElem?_lt hlt
      have HC : Hid (∀ W, Below w.heap.size w W → W.cell? ⟨bl, off + k * 3, none⟩ = some (.int .i64 kd) ∧ W.cell? ⟨bl, off + k * 3 + 1, none⟩ = some (.int .i64 ii) ∧ W.cell? ⟨bl, off + k * 3 + 2, none⟩ = some (.int .i64 vv)) := Lib.hid fun W hW =>
        ⟨(hW.cell (p := ⟨bl, off + k * 3 + 0, none⟩) hbl).trans (hc k _ hx 0 _ rfl), (hW.cell (p := ⟨bl, off + k * 3 + 1, none⟩) hbl).trans (hc k _ hx 1 _ rfl), (hW.cell (p := ⟨bl, off + k * 3 + 2, none⟩) hbl).trans (hc k _ hx 2 _ rfl)⟩
      obtain ⟨p, hp⟩ : ∃ p, p = getS r.S ii := ⟨_, rfl⟩
      have HP := Lib.hid hp
      have HD := Lib.hid (HW.out.st.below (w' := wo.drew) (below_drewN (Below.refl _ _) 1))
      have kd0 := HD.out.bel
      clear hc hx hp
      go_wp2_with fail
      go_region_held3 (fun W => W.cell? ⟨bl, off + k * 3 + 1, none⟩ = some (.int .i64 ii))
        (first | exact (HC.out _ kd0).2.1 | exact (HC.out _ k2).2.1)
        (first
          | (go_at_call 16; go_loud (refine (aops_any HD.out.rg.ar).mono ?_); rintro en w1 ⟨rfl, rfl⟩)
          | (go_at_call 13; go_loud (refine (spot_any HD.out.rg ii).mono ?_); rintro en w2 ⟨rfl, b2⟩; rw [← HP.out]; unfold spotV; have H2 := Lib.hid (HD.out.below b2); have k2 := H2.out.bel))
      all_goals
        clear hfp
        obtain ⟨x0, x1, x2⟩ := HC.out _ k2
        obtain ⟨r', c, hact⟩ : ∃ r' c, actRg r 1 kd ii vv = (r', c) := ⟨_, _, rfl⟩
        have hr' : r' = (actRg r 1 kd ii vv).1 := by rw [hact]
        have hok' : ∀ p ∈ r'.S, pcOk p := by rw [hr']; exact actRg_pc H2.out.ok 1 kd ii vv
        have ho0 : r'.ar.ops ≤ r.ar.ops + 1 := by rw [hr']; exact actRg_ops r 1 kd ii vv
        have hro := H2.out.ops
        have hop1 : r.ar.ops + 1 ≤ 1000000000000 := by omega
        have ho1 : kd ≠ 0 → r'.ar.ops = r.ar.ops := fun h => by rw [hr', actRg_ops0 r 1 kd ii vv h]
        have hSl : r'.S.length = sl := by rw [hr', actRg_S]; exact HW.out.inv.q.sl
        obtain ⟨p', hp'⟩ : ∃ p, p = getS r'.S ii := ⟨_, rfl⟩
        have HP' := Lib.hid hp'
        obtain ⟨Q', hinv⟩ := act_one HW.out.inv (by omega) kd ii vv
        rw [← hr', ← HP.out, ← hp'] at hinv
        have HI := Lib.hid hinv
        have HX := Lib.hid (And.intro hact hok')
        clear hinv hact hok' hr' hp' HD kd0
        go_wp2_with fail
        refine (do_call H2.out.rg hop1 H2.out.ok kd ii vv HX.out.1).mono ?_
        rintro en w3 ⟨rfl, hR3, hT3⟩
        have H3 := Lib.hid (And.intro (H2.out.next hR3 hT3 HX.out.2 (show r'.ar.ops ≤ k + 1 by omega)) hT3)
        clear hR3 hT3 x0 x1 x2
        obtain ⟨x0, x1, x2⟩ := HC.out _ H3.out.1.bel
        go_wp2_with fail
        refine (spot_any H3.out.1.rg ii).mono ?_
        rintro en w4 ⟨rfl, b4⟩
        rw [← HP'.out]
        unfold spotV
        have hfp := field_pc
        have H4 := Lib.hid (And.intro (H3.out.1.below b4) b4)
        clear b4 x0 x1 x2
        obtain ⟨x0, x1, x2⟩ := HC.out _ H4.out.1.bel
        go_upto_region 15 with fail
        have g1 : decide (((r.ar.ops : Nat) : Int) + 1 < ((r'.ar.ops : Nat) : Int)) = false := decide_eq_false (by omega)
        go_cut [87] (fun s87 wx => s87 = .bool false ∧ wx = w4)
        case first =>
          go_wp2_with fail
          refine (aops_any H4.out.1.rg.ar).mono ?_
          rintro en w5 ⟨rfl, rfl⟩
          by_cases hkd : kd = 0
          · subst hkd
            go_wp2
            go_meet
            case rel => exact ⟨rfl, rfl⟩
          · have g2 : (kd != 0) = true := by simpa using hkd
            have g3 : r'.ar.ops = r.ar.ops := ho1 hkd
            go_wp2_with fail
            refine (aops_any H4.out.1.rg.ar).mono ?_
            rintro en w6 ⟨rfl, rfl⟩
            go_wp2
            go_meet
            case rel => exact ⟨congrArg Value.bool (decide_eq_false (by omega)), rfl⟩
        case rest =>
          obtain ⟨rfl, rfl⟩ := hcut
          have HK := Lib.hid (HW.out.cut.next (((((Turns.refl _ _).drew).trans (Turns.of_below b2)).trans H3.out.2).trans (Turns.of_below H4.out.2)) H4.out.1)
          go_upto_region 17 with fail
          obtain ⟨b17, hb17⟩ : ∃ b, b = decide (kd = 0 ∧ p.pc = 3) := ⟨_, rfl⟩
          have HB17 := Lib.hid hb17
          clear hb17
          go_cut [97] (fun s97 wx => s97 = .bool b17 ∧ wx = wc)
          case first =>
            by_cases c1 : kd = 0
            · have c5 : (kd == 0) = true := by simpa using c1
              by_cases c2 : p.pc = 3
              · have c3 : (p.pc == 3) = true := by simpa using c2
                have HG := Lib.hid (show decide (kd = 0 ∧ p.pc = 3) = true from decide_eq_true ⟨c1, c2⟩)
                clear c1 c2
                go_wp2
                go_meet
                case rel => exact ⟨congrArg Value.bool (HG.out.symm.trans HB17.out.symm), rfl⟩
              · have c3 : (p.pc == 3) = false := by simpa using c2
                have HG := Lib.hid (show decide (kd = 0 ∧ p.pc = 3) = false from decide_eq_false (fun h => c2 h.2))
                clear c1 c2
                go_wp2
                go_meet
                case rel => exact ⟨congrArg Value.bool (HG.out.symm.trans HB17.out.symm), rfl⟩
            · have c3 : (kd == 0) = false := by simpa using c1
              have HG := Lib.hid (show decide (kd = 0 ∧ p.pc = 3) = false from decide_eq_false (fun h => c1 h.1))
              clear c1
              go_wp2
              go_meet
              case rel => exact ⟨congrArg Value.bool (HG.out.symm.trans HB17.out.symm), rfl⟩
          case rest =>
            obtain ⟨rfl, rfl⟩ := hcut
            go_upto_if 97 with fail
            go_cut [9] (fun s9 wx => CutW w wx l a g q r' (if kd = 0 ∧ p.pc = 3 then D ++ [ii.toNat] else D) H s9 u10 (k + 1))
            case first =>
              by_cases c1 : kd = 0 ∧ p.pc = 3
              · have hi : (ii.toNat : Int) = ii := by
                  by_cases hi : okI r.S ii
                  · have := hi.1; omega
                  · have := c1.2; rw [HP.out, getS_out hi] at this; exact absurd this (by decide)
                obtain rfl : b17 = true := HB17.out.trans (decide_eq_true c1)
                have HG := Lib.hid (And.intro c1 hi)
                have hown := HK.out.od
                have hsz : w.heap.size ≤ wc.heap.size := HK.out.st.bel.size
                have hdl := HW.out.dl
                obtain ⟨A9, c9, rfl⟩ := own_form hown
                clear c1 hi
                go_wp2_with (at_builtin; go_loud (refine wpList_append_own_at _ rfl _ _ 22 rfl w.heap.size 3 i0 (.int .i64 0) 1 8 Try.underlying22 i0p.out.1 i0p.out.2.1 i0p.out.2.2.1 i0p.out.2.2.2 rfl (by decide) _ _ _ rfl (hown.alloc _) ⟨wc.heap.size, 0, none⟩ 1 1 [.int .i64 ii] rfl rfl (cell_one_new _ _ _) (one_int _) ?c3 ?c4 ?c5 ?_))
                case c3 => unfold maxLen; omega
                case c4 => omega
                case c5 => simp; omega
                intro v' w' hown' hgrow hnil hat
                have HN := Lib.hid (And.intro hown' (And.intro hgrow hat))
                clear hown' hgrow hnil hat
                go_wp2
                go_meet
                case rel =>
                  have HK1 := HK.out.below ((Below.refl _ _).alloc (Nat.le_refl _) (.cells #[.int .i64 ii] 3))
                  rw [if_pos HG.out.1]
                  exact HK1.app ii.toNat HK1.all (by rw [HG.out.2]; exact HN.out.1) HN.out.2.1 (HN.out.2.2.imp id fun e => ⟨_, by simp, e⟩)
              · obtain rfl : b17 = false := HB17.out.trans (decide_eq_false c1)
                have HG := Lib.hid c1
                clear c1
                go_wp2
                go_meet
                case rel => rw [if_neg HG.out]; exact HK.out
            case rest =>
              obtain ⟨D2, hD2⟩ : ∃ D2, D2 = (if kd = 0 ∧ p.pc = 3 then D ++ [ii.toNat] else D) := ⟨_, rfl⟩
              rw [← hD2] at hcut
              have HD2 := Lib.hid hD2
              have HK2 := Lib.hid hcut
              clear hD2 hcut HK x0 x1 x2
              obtain ⟨y0, y1, y2⟩ := HC.out _ HK2.out.st.bel
              obtain ⟨wd, rfl⟩ : ∃ wd : World, wd = wc := ⟨_, rfl⟩
              go_upto_region 19 with fail
              obtain ⟨b19, hb19⟩ : ∃ b, b = decide (p.pc < 10 ∧ p'.pc = 10) := ⟨_, rfl⟩
              have HB19 := Lib.hid hb19
              clear hb19
              go_cut [111] (fun s111 wx => s111 = .bool b19 ∧ wx = wd)
              case first =>
                by_cases c1 : p.pc < 10
                · have c5 : decide (p.pc < 10) = true := decide_eq_true c1
                  by_cases c2 : p'.pc = 10
                  · have c3 : (p'.pc == 10) = true := by simpa using c2
                    have HG := Lib.hid (show decide (p.pc < 10 ∧ p'.pc = 10) = true from decide_eq_true ⟨c1, c2⟩)
                    clear c1 c2
                    go_wp2
                    go_meet
                    case rel => exact ⟨congrArg Value.bool (HG.out.symm.trans HB19.out.symm), rfl⟩
                  · have c3 : (p'.pc == 10) = false := by simpa using c2
                    have HG := Lib.hid (show decide (p.pc < 10 ∧ p'.pc = 10) = false from decide_eq_false (fun h => c2 h.2))
                    clear c1 c2
                    go_wp2
                    go_meet
                    case rel => exact ⟨congrArg Value.bool (HG.out.symm.trans HB19.out.symm), rfl⟩
                · have c5 : decide (p.pc < 10) = false := decide_eq_false c1
                  have HG := Lib.hid (show decide (p.pc < 10 ∧ p'.pc = 10) = false from decide_eq_false (fun h => c1 h.1))
                  clear c1
                  go_wp2
                  go_meet
                  case rel => exact ⟨congrArg Value.bool (HG.out.symm.trans HB19.out.symm), rfl⟩
              case rest =>
                obtain ⟨rfl, rfl⟩ := hcut
                go_upto_if 111 with fail
                go_cut [10] (fun s10 wx => CutW w wx l a g q r' D2 (if p.pc < 10 ∧ p'.pc = 10 then H ++ [ii.toNat] else H) u9 s10 (k + 1))
                case first =>
                  by_cases c1 : p.pc < 10 ∧ p'.pc = 10
                  · have hi : (ii.toNat : Int) = ii := by
                      by_cases hi : okI r'.S ii
                      · have := hi.1; omega
                      · have := c1.2; rw [HP'.out, getS_out hi] at this; exact absurd this (by decide)
                    obtain rfl : b19 = true := HB19.out.trans (decide_eq_true c1)
                    have HG := Lib.hid (And.intro c1 hi)
                    have hown := HK2.out.oh
                    have hsz : w.heap.size ≤ wc.heap.size := HK2.out.st.bel.size
                    have hdl := HW.out.hl
                    obtain ⟨A9, c9, rfl⟩ := own_form hown
                    clear c1 hi
                    go_wp2_with (at_builtin; go_loud (refine wpList_append_own_at _ rfl _ _ 22 rfl w.heap.size 3 i0 (.int .i64 0) 1 8 Try.underlying22 i0p.out.1 i0p.out.2.1 i0p.out.2.2.1 i0p.out.2.2.2 rfl (by decide) _ _ _ rfl (hown.alloc _) ⟨wc.heap.size, 0, none⟩ 1 1 [.int .i64 ii] rfl rfl (cell_one_new _ _ _) (one_int _) ?c3 ?c4 ?c5 ?_))
                    case c3 => unfold maxLen; omega
                    case c4 => omega
                    case c5 => simp; omega
                    intro v' w' hown' hgrow hnil hat
                    have HN := Lib.hid (And.intro hown' (And.intro hgrow hat))
                    clear hown' hgrow hnil hat
                    go_wp2
                    go_meet
                    case rel =>
                      have HK1 := HK2.out.swap.below ((Below.refl _ _).alloc (Nat.le_refl _) (.cells #[.int .i64 ii] 3))
                      rw [if_pos HG.out.1]
                      exact (HK1.app ii.toNat HK1.all (by rw [HG.out.2]; exact HN.out.1) HN.out.2.1 (HN.out.2.2.imp id fun e => ⟨_, by simp, e⟩)).swap
                  · obtain rfl : b19 = false := HB19.out.trans (decide_eq_false c1)
                    have HG := Lib.hid c1
                    clear c1
                    go_wp2
                    go_meet
                    case rel => rw [if_neg HG.out]; exact HK2.out
                case rest =>
                  obtain ⟨H2', hH2⟩ : ∃ H2', H2' = (if p.pc < 10 ∧ p'.pc = 10 then H ++ [ii.toNat] else H) := ⟨_, rfl⟩
                  have HI2 := HI.out
                  rw [← HD2.out] at HI2
                  rw [← hH2] at hcut HI2
                  have HL := Lib.hid (show D2.length ≤ k + 1 ∧ H2'.length ≤ k + 1 from by
                    have := HW.out.dl
                    have := HW.out.hl
                    rw [HD2.out, hH2]
                    constructor <;> split <;> first | omega | (simp; omega))
                  have HI3 := Lib.hid (And.intro hcut HI2)
                  clear hH2 hcut HI2 HK2 HI y0 y1 y2
                  obtain ⟨we, rfl⟩ : ∃ we : World, we = wc := ⟨_, rfl⟩
                  have HJ := Lib.hid (hold_le HI3.out.2.q)
                  go_upto_region 21 with fail
                  go_wp2
                  go_loopw [15, 16] (fun h kk wr => ∃ j : Nat, kk = .int .i64 j ∧ j ≤ sl ∧ h = .int .i64 (holdN r'.S j : Nat) ∧ CutW w wr l a g q r' D2 H2' u9 u10 (k + 1)) (fun _ kk _ => sl - (intOf kk).toNat)
                  case atStart => exact ⟨0, rfl, by omega, rfl, HI3.out.1⟩
                  case round =>
                    obtain ⟨j, rfl, hj, rfl, hC⟩ := hrel
                    obtain ⟨wi, rfl⟩ : ∃ wi : World, wi = wr := ⟨_, rfl⟩
                    have HCj := Lib.hid hC
                    clear hC
                    by_cases hjs : j < sl
                    · have hn1 := (HJ.out j hj).1
                      obtain ⟨pj, hpj⟩ : ∃ pj, pj = getS r'.S j := ⟨_, rfl⟩
                      have HPj := Lib.hid (show getS r'.S j = pj ∧ sv r'.S j = pj from ⟨hpj.symm, by rw [hpj, getS_sv (by omega)]⟩)
                      clear hpj
                      go_wp2_with fail
                      refine (spot_any HCj.out.st.rg j).mono ?_
                      rintro en wj ⟨rfl, bj⟩
                      rw [HPj.out.1]
                      unfold spotV
                      have hfp := field_pc
                      have HCk := Lib.hid (HCj.out.below bj)
                      have HS := Lib.hid (holdN_succ r'.S j)
                      clear bj
                      cases e10 : (pj.pc == 10)
                      · cases e15 : (pj.pc == 15)
                        · cases e16 : (pj.pc == 16)
                          · have HE := Lib.hid (show holdN r'.S (j + 1) = holdN r'.S j from by
                              rw [HS.out, HPj.out.2, if_neg]
                              · omega
                              · simp only [beq_eq_false_iff_ne] at e10 e15 e16
                                simp [holdB, e10, e15, e16])
                            go_wp2
                            go_roundw
                            case rel => exact ⟨j + 1, by go_num, by omega, by rw [HE.out], HCk.out⟩
                            case measure => simp [intOf]; omega
                          · have HE := Lib.hid (show holdN r'.S (j + 1) = holdN r'.S j + 1 from by
                              rw [HS.out, HPj.out.2, if_pos]
                              simp only [beq_iff_eq] at e16
                              simp [holdB, e16])
                            go_wp2
                            go_roundw
                            case rel => exact ⟨j + 1, by go_num, by omega, by rw [HE.out]; go_num, HCk.out⟩
                            case measure => simp [intOf]; omega
                        · have HE := Lib.hid (show holdN r'.S (j + 1) = holdN r'.S j + 1 from by
                            rw [HS.out, HPj.out.2, if_pos]
                            simp only [beq_iff_eq] at e15
                            simp [holdB, e15])
                          go_wp2
                          go_roundw
                          case rel => exact ⟨j + 1, by go_num, by omega, by rw [HE.out]; go_num, HCk.out⟩
                          case measure => simp [intOf]; omega
                      · have HE := Lib.hid (show holdN r'.S (j + 1) = holdN r'.S j + 1 from by
                          rw [HS.out, HPj.out.2, if_pos]
                          simp only [beq_iff_eq] at e10
                          simp [holdB, e10])
                        go_wp2
                        go_roundw
                        case rel => exact ⟨j + 1, by go_num, by omega, by rw [HE.out]; go_num, HCk.out⟩
                        case measure => simp [intOf]; omega
                    · obtain rfl : j = sl := by omega
                      have hn1 := (HJ.out j (Nat.le_refl _)).1
                      have g1 : decide (1 < ((holdN r'.S j : Nat) : Int)) = false := decide_eq_false (by omega)
                      go_wp2
                      go_roundw
                      case rel => exact ⟨k + 1, r', Q', D2, H2', by go_num, by omega, ⟨HCj.out.st, HI3.out.2, HCj.out.od, HCj.out.oh, HL.out.1, HL.out.2, HCj.out.ne, HCj.out.dd, HCj.out.hd⟩⟩
                      case measure => simp [intOf]; omega
    · obtain rfl : k = ls.length := by omega
      have hpre := one_prefix HW.out.inv
      have ho1 := HW.out.od
      have ho2 := HW.out.oh
      obtain ⟨A9, c9, rfl⟩ := own_form ho1
      obtain ⟨A10, c10, rfl⟩ := own_form ho2
      have hdl := HW.out.dl
      have hhl := HW.out.hl
      have hle : decide (H.length ≤ D.length) = true := decide_eq_true hpre.1
      have hR1 := own_ints ho1 (by omega)
      have hR2 := own_ints ho2 (by omega)
      have HR1 := Lib.hid (And.intro hR1 (And.intro hR2 hpre))
      have hpl := hpre.1
      have hcap : H.length ≤ c9 := Nat.le_trans hpl (own_cap ho1)
      clear ho1 ho2 hR1 hR2 hpre
      go_wp2_with fail
      all_goals
        refine (sameIT _ _ _ _ HR1.out.2.1 (by have h9 := rdl_head HR1.out.1 H.length hpl; rw [← List.map_take, HR1.out.2.2.2] at h9; exact h9)).mono ?_
        rintro en wa1 ⟨rfl, qa1⟩
        have HB1 := Lib.hid (Qt.below qa1 wo.heap.size)
        clear qa1
        go_wp2_with fail
        refine (awake26 _).mono ?_
        rintro en wa2 ⟨rfl, ba2⟩
        have HB2 := Lib.hid (HB1.out.trans (ba2.mono HB1.out.size))
        clear ba2
        go_wp2
        go_ret
        exact ⟨rfl, HW.out.st.bel.trans (HB2.out.mono hlo)⟩
end Go.Proofs.Ythgpjiebeinamaa
