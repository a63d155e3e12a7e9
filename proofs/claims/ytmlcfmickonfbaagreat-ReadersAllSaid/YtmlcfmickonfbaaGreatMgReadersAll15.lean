/- Joined: Mx6, Qu1, Qu2, Dr1, Ns0, Ns1, Ns2. -/
import Derived.Test.YtmlcfmickonfbaaGreatMgReadersAll1
import Derived.Test.YtmlcfmickonfbaaGreatMgReadersAll2
import Derived.Test.YtmlcfmickonfbaaGreatMgReadersAll6
import Derived.Test.YtmlcfmickonfbaaGreatMgReadersAll8
import Derived.Test.YtmlcfmickonfbaaGreatMgReadersAll14
section
set_option linter.unusedVariables false
set_option linter.unusedSimpArgs false
/- Layer 24 (cohort), plain: a new lock keeps mutual exclusion's invariant. No program in sight. -/
namespace Go.Proofs.YtmlcfmickonfbaaGreat
open Go

theorem ldW_app (W X : List Int) {y : Int} (hy : y ≤ (W.length : Int)) : ldW (W ++ X) y = ldW W y := by
  by_cases h : 1 ≤ y
  · have h1 : inR W y = true := inR_true.2 ⟨h, hy⟩
    have h2 : inR (W ++ X) y = true := inR_true.2 ⟨h, by rw [List.length_append]; omega⟩
    rw [ldW_in h1, ldW_in h2, List.getD_eq_getElem?_getD, List.getElem?_append_left (by omega), ← List.getD_eq_getElem?_getD]
  · rw [ldW_out (inR_false.2 (by omega)), ldW_out (inR_false.2 (by omega))]
theorem ldW_new (W : List Int) (j : Nat) {y : Int} (hy : (W.length : Int) < y) : ldW (W ++ List.replicate j 0) y = 0 := by
  unfold ldW
  split
  · rw [List.getD_eq_getElem?_getD]
    rename_i h
    have h2 := inR_true.1 h
    rw [List.getElem?_append_right (by omega), List.getElem?_replicate]
    split <;> rfl
  · rfl
theorem newAr_pre (k : Nat) (s : Ar) (n m : Nat) {y : Int} (hy : y ≤ (s.W.length : Int)) : ldW (newAr_ k s n m).W y = ldW s.W y := by
  have e : ldW (takeS s (szK k n m)).W y = ldW s.W y := ldW_app _ _ hy
  have key : ∀ x v : Int, (s.W.length : Int) < x → ldW (storeA (takeS s (szK k n m)) x v).W y = ldW s.W y := fun x v hx => by
    rw [storeA_W, ← e]
    unfold stW
    split
    · rename_i h
      have := ldW_st h v y
      unfold stW at this
      rw [if_pos h] at this
      rw [this, if_neg (by omega)]
    · rfl
  unfold newAr_
  split
  · exact key _ _ (by omega)
  split
  · exact key _ _ (by omega)
  · exact e
section
variable {kl par : Nat} {f : Nat → Nat} {s : Ar}
theorem coNewS_pre {j k : Nat} (h : j ≤ k) {y : Int} (hy : y ≤ ((coNewS kl par f s j).W.length : Int)) : ldW (coNewS kl par f s k).W y = ldW (coNewS kl par f s j).W y := by
  induction k with
  | zero => obtain rfl : j = 0 := by omega
            rfl
  | succ k ih =>
    by_cases e : j = k + 1
    · subst e; rfl
    · have hjk : j ≤ k := by omega
      have hm := coNewS_mono kl par f s hjk
      rw [← ih hjk]
      show ldW (takeS (newAr_ kl (coNewS kl par f s k) (f k) par) 1).W y = _
      have h1 : ldW (takeS (newAr_ kl (coNewS kl par f s k) (f k) par) 1).W y = ldW (newAr_ kl (coNewS kl par f s k) (f k) par).W y := ldW_app _ _ (by rw [newAr_len]; omega)
      rw [h1]
      exact newAr_pre _ _ _ _ (by omega)
theorem coNewS_cnt {j k : Nat} (h : j < k) : ldW (coNewS kl par f s k).W (cwN kl par f s j : Nat) = 0 := by
  rw [coNewS_pre (j := j + 1) (k := k) h]
  · show ldW (takeS (newAr_ kl (coNewS kl par f s j) (f j) par) 1).W _ = 0
    exact ldW_new _ _ (by unfold cwN; omega)
  · show _ ≤ ((takeS (newAr_ kl (coNewS kl par f s j) (f j) par) 1).W.length : Int)
    rw [takeS_len]
    unfold cwN; omega
end
theorem szI_K {k n m : Nat} : szI k n (m : Int) = (szK k n m : Nat) := by
  unfold szI szK
  split
  · rfl
  split
  · rfl
  split
  · omega
  split <;> omega
theorem newSp_sv0 (k n i : Nat) : (sv (newSpK k n) i).pc = 0 := getD_memZ (P := fun p => p.pc = 0) (fun p hp => (newSp_pc k n p hp).1) rfl i
/-- a new flat lock -/
theorem finv_new {k : Nat} (hk : 1 ≤ k ∧ k ≤ 5) (s : Ar) {n m : Nat} (hm : 1 ≤ m) : FInv k (s.W.length + 1 : Nat) (m : Int) n (newAr_ k s n m).W (newSpK k n) := by
  have hz := newAr_len k s n m
  refine ⟨newSpK_len k n, by omega, by omega, by rw [hz, szI_K]; omega, ?_⟩
  have p0 := newSp_sv0 k n
  have hr : ∀ y : Int, (s.W.length : Int) < y → y ≤ s.W.length + szK k n m → inR (takeS s (szK k n m)).W y = true := fun y h1 h2 => inR_true.2 ⟨by omega, by rw [takeS_len]; omega⟩
  have h0 : ∀ y : Int, (s.W.length : Int) < y → ldW (takeS s (szK k n m)).W y = 0 := fun y hy => ldW_new _ _ hy
  have hk' : k = 1 ∨ k = 2 ∨ k = 3 ∨ k = 4 ∨ k = 5 := by omega
  rcases hk' with rfl | rfl | rfl | rfl | rfl
  · show TasI _ n _ _
    intro i hi hc
    rw [p0] at hc; omega
  · show TickI _ n (ldW (takeS s 2).W) _
    refine ⟨?_, fun i hi hc => by rw [p0] at hc; omega, fun i hi hc => by rw [p0] at hc; omega, fun i j hi hj hn hc _ => by rw [p0] at hc; omega⟩
    have e1 := h0 ((s.W.length + 1 : Nat) + 1) (by omega)
    have e2 := h0 (s.W.length + 1 : Nat) (by omega)
    show ldW (takeS s (szK 2 n m)).W _ ≤ ldW (takeS s (szK 2 n m)).W _
    rw [e1, e2]; exact Int.le_refl _
  · show ∃ v, PartI _ _ n (ldW (storeA (takeS s (szK 3 n m)) ((s.W.length : Int) + 2) 1).W) _ v
    rw [storeA_W]
    have hw := ldW_st (hr ((s.W.length : Int) + 2) (by omega) (by show (s.W.length : Int) + 2 ≤ s.W.length + (1 + m : Nat); omega)) 1
    refine ⟨0, Int.le_refl _, ?_, fun i hi hc => by rw [p0] at hc; omega, fun i hi hc => by rw [p0] at hc; omega, fun i j hi hj hn hc _ => by rw [p0] at hc; omega, fun q q0 q1 => ?_, ?_⟩
    · rw [hw, if_neg (by omega), h0 _ (by omega)]; exact Int.le_refl _
    · rw [hw]
      split
      · omega
      · rw [h0 _ (by omega)]; omega
    · rw [hw, if_pos (by unfold pPl; rw [Int.zero_emod]; omega)]; rfl
  · show ∃ q, McsI _ n (ldW (takeS s (szK 4 n m)).W) _ q
    exact ⟨[], by simp, by simp, fun i hi => by rw [p0]; simp, by rw [h0 _ (by omega)]; rfl, trivial, trivial, fun i hi hc => by rw [p0] at hc; omega, fun i hi hc => by rw [p0] at hc; omega⟩
  · show ∃ q e, ClhI _ n (ldW (storeA (takeS s (szK 5 n m)) ((s.W.length : Int) + 1) ((n : Int) + 1)).W) _ q e
    rw [storeA_W]
    have hw := ldW_st (hr ((s.W.length : Int) + 1) (by omega) (by show (s.W.length : Int) + 1 ≤ s.W.length + (n + 2 : Nat); omega)) ((n : Int) + 1)
    have ea : ∀ i, i < n → (sv (newSpK 5 n) i).a = (i : Int) + 1 := fun i hi => by
      unfold sv newSpK
      rw [List.getD_eq_getElem?_getD]
      simp [hi]
    refine ⟨[], (n : Int) + 1, by simp, by simp, fun i hi => by rw [p0]; simp, by omega, fun i hi => by rw [ea i hi]; omega, fun i j hi hj hn => by rw [ea i hi, ea j hj]; omega, fun i hi => by rw [ea i hi]; omega, ?_, trivial, ?_, fun i hi hc => by rw [p0] at hc; omega, by simp⟩
    · rw [hw, if_pos (by omega)]; rfl
    · rw [hw, if_neg (by omega), h0 _ (by omega)]
theorem FInv.grow {k n : Nat} {t m : Int} {W W' : List Int} {S : List Sp} (h : FInv k t m n W S) (hl : W.length ≤ W'.length) (hf : ∀ y, t ≤ y → y < t + szI k n m → ldW W' y = ldW W y) : FInv k t m n W' S :=
  ⟨h.len, h.m1, h.t1, by have := h.t2; omega, h.i.congr h.m1 hf⟩
section
variable {kg kl par : Nat} {bud : Int} {P T : List Int} {s : Ar}
theorem ly_new (hc : chkT P T = 0) (hkg : 1 ≤ kg ∧ kg ≤ 5) (hkl : 1 ≤ kl ∧ kl ≤ 5) (hp : 1 ≤ par ∧ par ≤ 4) : CoLy (coCN kg kl par bud P T s) T.length (leavesL P).length (mtQ P T) := by
  have h0 := new_w0 (bud := bud) (s := s) hc hkg hkl hp
  obtain ⟨s7, hs7⟩ : ∃ x, x = newAr_ kg s (leavesL P).length par := ⟨_, rfl⟩
  have ecw : ∀ a, (coCN kg kl par bud P T s).cw a = ((cwN kl par (mtQ P T) s7 a : Nat) : Int) := fun a => by rw [hs7]; rfl
  have etl : ∀ a, (coCN kg kl par bud P T s).tl a = (((coNewS kl par (mtQ P T) s7 a).W.length + 1 : Nat) : Int) := fun a => by rw [hs7]; rfl
  have hcw : ∀ a, (coCN kg kl par bud P T s).cw a = (coCN kg kl par bud P T s).tl a + (szK kl (mtQ P T a) par : Nat) := fun a => by
    rw [ecw, etl]
    unfold cwN
    rw [newAr_len]; omega
  refine ⟨h0.k, h0.inj, fun i hi => ?_, fun a ha => ?_, fun a ha => ?_, fun a ha => ?_, fun a b ha hb hn => ?_⟩
  · have := slot_lt hc hi
    exact ⟨this.1, this.2.2.2⟩
  · rw [hcw]
    show _ = _ + szI kl (mtQ P T a) ((par : Nat) : Int)
    rw [szI_K]
  · show ((s.W.length + 1 : Nat) : Int) + szI kg (leavesL P).length ((par : Nat) : Int) ≤ _
    rw [szI_K, etl]
    have h1 := coNewS_mono kl par (mtQ P T) s7 (Nat.zero_le a)
    have h2 : (coNewS kl par (mtQ P T) s7 0).W.length = s.W.length + szK kg (leavesL P).length par := by rw [hs7]; exact newAr_len _ _ _ _
    omega
  · show 0 ≤ szI kl (mtQ P T a) ((par : Nat) : Int)
    rw [szI_K]; omega
  · have key : ∀ a b, a < b → (coCN kg kl par bud P T s).cw a < (coCN kg kl par bud P T s).tl b := fun a b h => by
      rw [ecw, etl]
      have := coNewS_lt kl par (mtQ P T) s7 h
      unfold cwN
      rw [newAr_len]; omega
    rcases Nat.lt_or_gt_of_ne hn with h | h
    · exact .inl (key a b h)
    · exact .inr (key b a h)
theorem m_new (hc : chkT P T = 0) (hkg : 1 ≤ kg ∧ kg ≤ 5) (hkl : 1 ≤ kl ∧ kl ≤ 5) (hp : 1 ≤ par ∧ par ≤ 4) (hs : WdB 40 s) : CoM (coCN kg kl par bud P T s) T.length (leavesL P).length (mtQ P T) (coStN kg kl par P T s) := by
  have hok := new_ok (kg := kg) (kl := kl) (par := par) (bud := bud) hc hs
  have y := ly_new (bud := bud) (s := s) hc hkg hkl hp
  obtain ⟨s7, hs7⟩ : ∃ x, x = newAr_ kg s (leavesL P).length par := ⟨_, rfl⟩
  have eW : (coStN kg kl par P T s).s = coNewS kl par (mtQ P T) s7 (leavesL P).length := by rw [hs7]; rfl
  have hlen0 : (coNewS kl par (mtQ P T) s7 0).W.length = s.W.length + szK kg (leavesL P).length par := by rw [hs7]; exact newAr_len _ _ _ _
  have hget : ∀ n, n < (leavesL P).length → (coStN kg kl par P T s).L.getD n [] = newSpK kl (mtQ P T n) := fun n hn => by
    rw [List.getD_eq_getElem?_getD]
    simp [coStN, coNewL, hn]
  have hT0 : ∀ j, (sv (coStN kg kl par P T s).T j).pc = 0 := fun j => by
    show (sv (List.replicate T.length Sp.zero) j).pc = 0
    unfold sv
    rw [List.getD_eq_getElem?_getD, List.getElem?_replicate]
    split <;> rfl
  have hnb : ∀ j, ¬ busyP (sv (coStN kg kl par P T s).T j) := fun j hb => by unfold busyP at hb; rw [hT0] at hb; omega
  refine ⟨?_, fun a ha => ?_, by simp [coStN, coNewL], fun a ha => ?_, hok.v, fun j hj => stP_idle (hnb j), fun a ha _ => ?_⟩
  · have h1 := finv_new hkg s (n := (leavesL P).length) hp.1
    rw [eW]
    refine h1.grow ?_ (fun x h2 h3 => ?_)
    · have := coNewS_mono kl par (mtQ P T) s7 (Nat.zero_le (leavesL P).length)
      rw [newAr_len]; omega
    · rw [szI_K] at h3
      rw [coNewS_pre (Nat.zero_le _) (by rw [hlen0]; omega), hs7]; rfl
  · rw [hget a ha, eW]
    have h1 := finv_new hkl (coNewS kl par (mtQ P T) s7 a) (n := mtQ P T a) hp.1
    have et : (coCN kg kl par bud P T s).tl a = (((coNewS kl par (mtQ P T) s7 a).W.length + 1 : Nat) : Int) := by rw [hs7]; rfl
    rw [et]
    refine h1.grow ?_ (fun x h2 h3 => ?_)
    · have := coNewS_lt kl par (mtQ P T) s7 ha
      rw [newAr_len]; omega
    · rw [szI_K] at h3
      have e1 : ((coNewS kl par (mtQ P T) s7 (a + 1)).W.length : Int) = (coNewS kl par (mtQ P T) s7 a).W.length + szK kl (mtQ P T a) par + 1 := by
        show ((takeS (newAr_ _ _ _ _) 1).W.length : Int) = _
        rw [takeS_len, newAr_len]; omega
      rw [coNewS_pre (j := a + 1) ha (by omega)]
      show ldW (takeS (newAr_ kl (coNewS kl par (mtQ P T) s7 a) (mtQ P T a) par) 1).W x = _
      exact ldW_app _ _ (by rw [newAr_len]; omega)
  · have ec : (coCN kg kl par bud P T s).cw a = ((cwN kl par (mtQ P T) s7 a : Nat) : Int) := by rw [hs7]; rfl
    rw [ec, eW]
    have := coNewS_lt kl par (mtQ P T) s7 ha
    unfold cwN
    rw [newAr_len]; omega
  · have ec : (coCN kg kl par bud P T s).cw a = ((cwN kl par (mtQ P T) s7 a : Nat) : Int) := by rw [hs7]; rfl
    rw [ec, eW, coNewS_cnt ha]
    show FrP (sv (newSpK kg (leavesL P).length) a) 0
    unfold FrP
    rw [newSp_sv0]; rfl
end
end Go.Proofs.YtmlcfmickonfbaaGreat
end
section
set_option linter.unusedVariables false
set_option linter.unusedSimpArgs false
/- Layers 36, 37, 38 (neutral, readers, writers): readers alone, as plain data. No program in sight. -/
namespace Go.Proofs.YtmlcfmickonfbaaGreat
open Go.RowKit

theorem getQ_nat {S : List Sp} {j : Nat} (h : j < S.length) : getS S (j : Int) = sv S j := by
  unfold getS; rw [if_pos (by omega)]; rfl
end Go.Proofs.YtmlcfmickonfbaaGreat
end
section
set_option linter.unusedVariables false
set_option linter.unusedSimpArgs false
/- Layers 34, 35, 1 (gauge, drain, arena): a new gauge, its words, Enter and Exit; a new drain; the last op. -/
namespace Go.Proofs.YtmlcfmickonfbaaGreat
open Go.RowKit

def gaC (a N : Nat) : Array Value := #[.pointer (some ⟨a, 0, none⟩), .int .i64 1, .int .i64 N]
theorem gaugeNew {w : World} {a g : Nat} {s : Ar} (h : ArIs w a g s) (N : Nat) (h1 : 1 ≤ N) (h2 : N ≤ 32) (hs : s.W = []) (hr : s.room = 4096) :
    Calls Tryz.prog 24 #[.pointer (some ⟨a, 0, none⟩), .int .i64 N] w fun e w' => ∃ gg, e = .returned (.tuple #[.pointer (some ⟨gg, 0, none⟩), .int .i64 0]) ∧ w.heap.size ≤ gg ∧ Blk w' gg 96 (gaC a N) ∧ ArIs w' a g (takeS s (2 * N)) ∧ Turns [a] w w' := by
  have HT0 := takeY h (2 * N) (by rw [hs, hr]; simp; omega)
  rw [hs] at HT0
  have HT := Lib.hid HT0
  have x1 : IntKind.i64.wrap (2 * (N : Int)) = ((2 * N : Nat) : Int) := by rw [IntWalk.i64_in _ (by omega)]; omega
  have t1 : ¬ (N : Int) < 1 := by omega
  have t2 : ¬ 32 < (N : Int) := by omega
  clear h hs hr HT0
  go_enter Tryz.func24, Tryz.ntmps24
  go_wp2_with fail
  refine HT.out.mono ?_
  rintro en w1 ⟨rfl, k1, t1'⟩
  have H1 := Lib.hid (And.intro k1 t1')
  clear k1 t1' HT
  go_wp2
  go_ret2
  have s1 := H1.out.2.size
  refine ⟨w1.heap.size, by simp, s1, ?_, H1.out.1.turns (S := []) ((Turns.refl _ _).alloc _) (by simp) (by simp), H1.out.2.alloc _⟩
  have := Blk.new w1 96 (gaC a N)
  simpa [gaC] using this
section
variable {w : World} {gg a g N : Nat} {s : Ar}
theorem ganodes (h : Blk w gg 96 (gaC a N)) : Calls Tryz.prog 51 #[.pointer (some ⟨gg, 0, none⟩)] w fun e w' => e = .returned (.int .i64 N) ∧ w = w' := by
  have c2 : w.cell? ⟨gg, 2, none⟩ = some (.int .i64 N) := h.cell 2
  clear h
  go_enter Tryz.func51, Tryz.ntmps51
  go_wp2
  go_ret
  exact ⟨rfl, rfl⟩
theorem gaWord (h : Blk w gg 96 (gaC a N)) (nd : Nat) (hn : nd < N) (hN : N ≤ 32) : Calls Tryz.prog 32 #[.pointer (some ⟨gg, 0, none⟩), .int .i64 nd] w fun e w' => e = .returned (.int .i64 (2 * (nd : Int) + 1)) ∧ w = w' := by
  have c1 : w.cell? ⟨gg, 1, none⟩ = some (.int .i64 1) := h.cell 1
  have HN := Lib.hid (ganodes h)
  have t1 : ¬ (nd : Int) < 0 := by omega
  have t2 : ¬ (N : Int) ≤ (nd : Int) := by omega
  have x1 : IntKind.i64.wrap (2 * (nd : Int)) = 2 * (nd : Int) := IntWalk.i64_in _ (by omega)
  have x2 : IntKind.i64.wrap (1 + 2 * (nd : Int)) = 2 * (nd : Int) + 1 := by rw [IntWalk.i64_in _ (by omega)]; omega
  clear h
  go_enter Tryz.func32, Tryz.ntmps32
  go_wp2_with fail
  refine HN.out.mono ?_
  rintro en w' ⟨rfl, rfl⟩
  go_wp2
  go_ret
  exact ⟨rfl, rfl⟩
theorem gaAdd (h : Blk w gg 96 (gaC a N)) (hA : ArIs w a g s) (nd : Nat) (hn : nd < N) (hN : N ≤ 32) (k : Nat) (hk : k ≤ 1) (ho : s.ops + 1 ≤ 1000000000000) : Calls Tryz.prog 52 #[.pointer (some ⟨gg, 0, none⟩), .int .i64 nd, .int .i64 k] w fun e w' => e = .returned (.tuple #[]) ∧ ArIs w' a g (addA s (2 * (nd : Int) + 1 + k) 1) ∧ Turns [a, g] w w' := by
  have c0 : w.cell? ⟨gg, 0, none⟩ = some (.pointer (some ⟨a, 0, none⟩)) := h.cell 0
  have HW := Lib.hid (gaWord h nd hn hN)
  have t1 : (0 : Int) < 2 * (nd : Int) + 1 := by omega
  have x1 : IntKind.i64.wrap (2 * (nd : Int) + 1 + (k : Int)) = 2 * (nd : Int) + 1 + (k : Int) := IntWalk.i64_in _ (by omega)
  obtain ⟨o, hoo⟩ : ∃ o : Int, o = 2 * (nd : Int) + 1 := ⟨_, rfl⟩
  rw [← hoo] at HW t1 x1 ⊢
  have HA := Lib.hid (add_any hA (o + (k : Int)) 1 ho)
  clear h hA hoo
  go_enter Tryz.func52, Tryz.ntmps52
  go_wp2_with fail
  refine HW.out.mono ?_
  rintro en w' ⟨rfl, rfl⟩
  go_wp2_with fail
  refine HA.out.mono ?_
  rintro en w1 ⟨rfl, k1, t1'⟩
  have H1 := Lib.hid (And.intro k1 t1')
  clear k1 t1' HA
  go_wp2
  all_goals
    go_end0
    exact ⟨rfl, H1.out.1, H1.out.2⟩
theorem gaEnter (h : Blk w gg 96 (gaC a N)) (hA : ArIs w a g s) (nd : Nat) (hn : nd < N) (hN : N ≤ 32) (ho : s.ops + 1 ≤ 1000000000000) : Calls Tryz.prog 33 #[.pointer (some ⟨gg, 0, none⟩), .int .i64 nd] w fun e w' => e = .returned (.tuple #[]) ∧ ArIs w' a g (addA s (2 * (nd : Int) + 1) 1) ∧ Turns [a, g] w w' := by
  have HA0 := gaAdd h hA nd hn hN 0 (by omega) ho
  rw [show 2 * (nd : Int) + 1 + ((0 : Nat) : Int) = 2 * (nd : Int) + 1 by omega] at HA0
  have HA := Lib.hid HA0
  clear h hA HA0
  go_enter Tryz.func33, Tryz.ntmps33
  go_wp2_with fail
  refine HA.out.mono ?_
  rintro en w1 ⟨rfl, k1, t1'⟩
  have H1 := Lib.hid (And.intro k1 t1')
  clear k1 t1' HA
  go_wp2
  go_end0
  exact ⟨rfl, H1.out.1, H1.out.2⟩
theorem gaExit (h : Blk w gg 96 (gaC a N)) (hA : ArIs w a g s) (nd : Nat) (hn : nd < N) (hN : N ≤ 32) (ho : s.ops + 1 ≤ 1000000000000) : Calls Tryz.prog 35 #[.pointer (some ⟨gg, 0, none⟩), .int .i64 nd] w fun e w' => e = .returned (.tuple #[]) ∧ ArIs w' a g (addA s (2 * (nd : Int) + 1 + 1) 1) ∧ Turns [a, g] w w' := by
  have HA0 := gaAdd h hA nd hn hN 1 (by omega) ho
  rw [show 2 * (nd : Int) + 1 + ((1 : Nat) : Int) = 2 * (nd : Int) + 1 + 1 by omega] at HA0
  have HA := Lib.hid HA0
  clear h hA HA0
  go_enter Tryz.func35, Tryz.ntmps35
  go_wp2_with fail
  refine HA.out.mono ?_
  rintro en w1 ⟨rfl, k1, t1'⟩
  have H1 := Lib.hid (And.intro k1 t1')
  clear k1 t1' HA
  go_wp2
  go_end0
  exact ⟨rfl, H1.out.1, H1.out.2⟩
end
end Go.Proofs.YtmlcfmickonfbaaGreat
end
section
set_option linter.unusedVariables false
set_option linter.unusedSimpArgs false
/- Layers 34 and 35 (gauge, drain): In, Out; Begin, Step, Clear. (printed by gen_dr1.py) -/
namespace Go.Proofs.YtmlcfmickonfbaaGreat
open Go.RowKit

/-- a drain as plain data -/
structure Dr where
  at_ : Nat
  lim : Nat
  once : Bool
  busy : Bool
  second : Bool
  out : Int
  clear : Bool
def drC (gg : Nat) (d : Dr) : Array Value := #[.pointer (some ⟨gg, 0, none⟩), .int .i64 (d.at_ : Int), .int .i64 (d.lim : Int), .bool d.once, .bool d.busy, .bool d.second, .int .i64 d.out, .bool d.clear]
def gaA (n : Nat) : Int := 2 * (n : Int) + 1
def gaW (n : Nat) : Int := 2 * (n : Int) + 2
def drBeg (d : Dr) (N : Nat) (once : Bool) : Dr := ⟨0, N, once, true, false, d.out, false⟩
def drLast (s : Ar) (d : Dr) : Dr × Bool :=
  if ldW s.W (gaA d.at_) ≠ d.out then if d.once then ({ d with second := false, busy := false, clear := false }, true) else ({ d with second := false }, false)
  else if d.at_ + 1 = d.lim then ({ d with second := false, at_ := d.at_ + 1, busy := false, clear := true }, true) else ({ d with second := false, at_ := d.at_ + 1 }, false)
def drStep (s : Ar) (d : Dr) : Ar × Dr × Bool :=
  if d.busy then if d.second then (loadA s (gaA d.at_), drLast s d) else (loadA s (gaW d.at_), { d with out := ldW s.W (gaW d.at_), second := true }, false) else (s, d, false)
/-- gauge and drain in memory -/
structure GD (w : World) (a g gg dd N : Nat) (s : Ar) (d : Dr) : Prop where
  ar : ArIs w a g s
  ga : Blk w gg 96 (gaC a N)
  dr : Blk w dd 106 (drC gg d)
  n32 : N ≤ 32
  hd : dd ≠ a ∧ dd ≠ g ∧ dd ≠ gg
  hg : gg ≠ a ∧ gg ≠ g
section
variable {w w' w0 : World} {a g gg dd N : Nat} {s s' : Ar} {d d' : Dr}
theorem GD.op (h : GD w a g gg dd N s d) (t : Turns [a, g] w w') (ha : ArIs w' a g s') : GD w' a g gg dd N s' d :=
  { h with ar := ha, ga := t.blk h.ga (by simp [h.hg]), dr := t.blk h.dr (by simp [h.hd]) }
theorem GD.below (h : GD w a g gg dd N s d) (b : Below w.heap.size w w') : GD w' a g gg dd N s d :=
  have t : Turns [] w w' := Turns.of_below b
  { h with ar := h.ar.turns t (by simp) (by simp), ga := t.blk h.ga (by simp), dr := t.blk h.dr (by simp) }
theorem GD.set (h : GD w a g gg dd N s d) {i : Nat} {u : Value} (he : (drC gg d).setIfInBounds i u = drC gg d') : GD (w.setCell ⟨dd, i, none⟩ u) a g gg dd N s d' :=
  have t : Turns [dd] w (w.setCell ⟨dd, i, none⟩ u) := turns_q _ _ _
  { h with ar := h.ar.turns t (by simp; exact fun e => h.hd.1 e.symm) (by simp; exact fun e => h.hd.2.1 e.symm), ga := t.blk h.ga (by simp; exact fun e => h.hd.2.2 e.symm), dr := by rw [← he]; exact h.dr.set_ i u }
theorem GD.c (h : GD w a g gg dd N s d) : w.cell? ⟨dd, 0, none⟩ = some (.pointer (some ⟨gg, 0, none⟩)) ∧ w.cell? ⟨dd, 1, none⟩ = some (.int .i64 d.at_) ∧ w.cell? ⟨dd, 2, none⟩ = some (.int .i64 d.lim) ∧ w.cell? ⟨dd, 3, none⟩ = some (.bool d.once) ∧ w.cell? ⟨dd, 4, none⟩ = some (.bool d.busy) ∧ w.cell? ⟨dd, 5, none⟩ = some (.bool d.second) ∧ w.cell? ⟨dd, 6, none⟩ = some (.int .i64 d.out) ∧ w.cell? ⟨dd, 7, none⟩ = some (.bool d.clear) :=
  ⟨h.dr.cell 0, h.dr.cell 1, h.dr.cell 2, h.dr.cell 3, h.dr.cell 4, h.dr.cell 5, h.dr.cell 6, h.dr.cell 7⟩
theorem td_dd {i : Nat} {u : Value} : Turns [a, g, dd] w (w.setCell ⟨dd, i, none⟩ u) := turns_qag (turns_q _ _ _)
theorem gaLoad (h : Blk w gg 96 (gaC a N)) (hA : ArIs w a g s) (nd : Nat) (hn : nd < N) (hN : N ≤ 32) (k : Nat) (hk : k ≤ 1) (ho : s.ops + 1 ≤ 1000000000000) : Calls Tryz.prog 112 #[.pointer (some ⟨gg, 0, none⟩), .int .i64 nd, .int .i64 k] w fun e w' => e = .returned (.int .i64 (ldW s.W (2 * (nd : Int) + 1 + k))) ∧ ArIs w' a g (loadA s (2 * (nd : Int) + 1 + k)) ∧ Turns [a, g] w w' := by
  have c0 : w.cell? ⟨gg, 0, none⟩ = some (.pointer (some ⟨a, 0, none⟩)) := h.cell 0
  have HW := Lib.hid (gaWord h nd hn hN)
  have t1 : ((2 * (nd : Int) + 1) == 0) = false := by simp; omega
  have x1 : IntKind.i64.wrap (2 * (nd : Int) + 1 + (k : Int)) = 2 * (nd : Int) + 1 + (k : Int) := IntWalk.i64_in _ (by omega)
  obtain ⟨o, hoo⟩ : ∃ o : Int, o = 2 * (nd : Int) + 1 := ⟨_, rfl⟩
  rw [← hoo] at HW t1 x1 ⊢
  have HA := Lib.hid (load_any hA (o + (k : Int)) ho)
  clear h hA hoo
  go_enter Tryz.func112, Tryz.ntmps112
  go_wp2_with fail
  refine HW.out.mono ?_
  rintro en w' ⟨rfl, rfl⟩
  go_wp2_with fail
  refine HA.out.mono ?_
  rintro en w1 ⟨rfl, k1, t1'⟩
  have H1 := Lib.hid (And.intro k1 t1')
  clear k1 t1' HA
  go_wp2
  go_ret
  exact ⟨rfl, H1.out.1, H1.out.2⟩
theorem gaOut (h : Blk w gg 96 (gaC a N)) (hA : ArIs w a g s) (nd : Nat) (hn : nd < N) (hN : N ≤ 32) (ho : s.ops + 1 ≤ 1000000000000) : Calls Tryz.prog 105 #[.pointer (some ⟨gg, 0, none⟩), .int .i64 nd] w fun e w' => e = .returned (.int .i64 (ldW s.W (gaW nd))) ∧ ArIs w' a g (loadA s (gaW nd)) ∧ Turns [a, g] w w' := by
  have HA0 := gaLoad h hA nd hn hN 1 (by omega) ho
  rw [show 2 * (nd : Int) + 1 + ((1 : Nat) : Int) = gaW nd by unfold gaW; omega] at HA0
  have HA := Lib.hid HA0
  clear h hA HA0
  go_enter Tryz.func105, Tryz.ntmps105
  go_wp2_with fail
  refine HA.out.mono ?_
  rintro en w1 ⟨rfl, k1, t1'⟩
  have H1 := Lib.hid (And.intro k1 t1')
  clear k1 t1' HA
  go_wp2
  go_ret
  exact ⟨rfl, H1.out.1, H1.out.2⟩
theorem gaIn (h : Blk w gg 96 (gaC a N)) (hA : ArIs w a g s) (nd : Nat) (hn : nd < N) (hN : N ≤ 32) (ho : s.ops + 1 ≤ 1000000000000) : Calls Tryz.prog 106 #[.pointer (some ⟨gg, 0, none⟩), .int .i64 nd] w fun e w' => e = .returned (.int .i64 (ldW s.W (gaA nd))) ∧ ArIs w' a g (loadA s (gaA nd)) ∧ Turns [a, g] w w' := by
  have HA0 := gaLoad h hA nd hn hN 0 (by omega) ho
  rw [show 2 * (nd : Int) + 1 + ((0 : Nat) : Int) = gaA nd by unfold gaA; omega] at HA0
  have HA := Lib.hid HA0
  clear h hA HA0
  go_enter Tryz.func106, Tryz.ntmps106
  go_wp2_with fail
  refine HA.out.mono ?_
  rintro en w1 ⟨rfl, k1, t1'⟩
  have H1 := Lib.hid (And.intro k1 t1')
  clear k1 t1' HA
  go_wp2
  go_ret
  exact ⟨rfl, H1.out.1, H1.out.2⟩
theorem drOver (h : GD w a g gg dd N s d) (c : Bool) : Calls Tryz.prog 92 #[.pointer (some ⟨dd, 0, none⟩), .bool c] w fun e w' => e = .returned (.bool true) ∧ GD w' a g gg dd N s { d with busy := false, clear := c } ∧ Turns [a, g, dd] w w' := by
  have z4 := h.dr.free 4
  have z7 := h.dr.free 7
  have c4 := h.c.2.2.2.2.1
  have c7 := h.c.2.2.2.2.2.2.2
  have H1 := Lib.hid (h.set (i := 4) (u := .bool false) (d' := { d with busy := false }) rfl)
  have H2 := Lib.hid (H1.out.set (i := 7) (u := .bool c) (d' := { d with busy := false, clear := c }) rfl)
  clear h
  go_enter Tryz.func92, Tryz.ntmps92
  go_wp2
  go_ret
  exact ⟨rfl, H2.out, td_dd.trans td_dd⟩
theorem drBusy (h : GD w a g gg dd N s d) : Calls Tryz.prog 93 #[.pointer (some ⟨dd, 0, none⟩)] w fun e w' => e = .returned (.bool d.busy) ∧ w = w' := by
  have c4 := h.c.2.2.2.2.1
  clear h
  go_enter Tryz.func93, Tryz.ntmps93
  go_wp2
  go_ret
  exact ⟨rfl, rfl⟩
theorem drClear (h : GD w a g gg dd N s d) : Calls Tryz.prog 64 #[.pointer (some ⟨dd, 0, none⟩)] w fun e w' => e = .returned (.bool d.clear) ∧ w = w' := by
  have c7 := h.c.2.2.2.2.2.2.2
  clear h
  go_enter Tryz.func64, Tryz.ntmps64
  go_wp2
  go_ret
  exact ⟨rfl, rfl⟩
theorem drBegin (h : GD w a g gg dd N s d) (h1 : 1 ≤ N) (once : Bool) : Calls Tryz.prog 62 #[.pointer (some ⟨dd, 0, none⟩), .int .i64 0, .int .i64 N, .bool once] w fun e w' => e = .returned (.bool false) ∧ GD w' a g gg dd N s (drBeg d N once) ∧ Turns [a, g, dd] w w' := by
  obtain ⟨c0, c1, c2, c3, c4, c5, c6, c7⟩ := h.c
  have z1 := h.dr.free 1
  have z2 := h.dr.free 2
  have z3 := h.dr.free 3
  have z4 := h.dr.free 4
  have z5 := h.dr.free 5
  have z7 := h.dr.free 7
  have t1 : decide ((0 : Int) ≥ (N : Int)) = false := by simp; omega
  have t2 : ¬ (N : Int) ≤ 0 := by omega
  have H1 := h.set (i := 1) (u := .int .i64 0) (d' := { d with at_ := 0 }) rfl
  have H2 := H1.set (i := 2) (u := .int .i64 N) (d' := { d with at_ := 0, lim := N }) rfl
  have H3 := H2.set (i := 3) (u := .bool once) (d' := { d with at_ := 0, lim := N, once := once }) rfl
  have H4 := H3.set (i := 5) (u := .bool false) (d' := { d with at_ := 0, lim := N, once := once, second := false }) rfl
  have H5 := H4.set (i := 4) (u := .bool true) (d' := { d with at_ := 0, lim := N, once := once, second := false, busy := true }) rfl
  have H6 := Lib.hid (H5.set (i := 7) (u := .bool false) (d' := drBeg d N once) rfl)
  clear h H1 H2 H3 H4 H5
  go_enter Tryz.func62, Tryz.ntmps62
  go_wp2
  go_ret
  exact ⟨rfl, H6.out, ((((td_dd.trans td_dd).trans td_dd).trans td_dd).trans td_dd).trans td_dd⟩
set_option maxRecDepth 100000 in
set_option maxHeartbeats 2000000 in
theorem drFirst (h : GD w a g gg dd N s d) (hn : d.at_ < N) (ho : s.ops + 1 ≤ 1000000000000) : Calls Tryz.prog 94 #[.pointer (some ⟨dd, 0, none⟩)] w fun e w' => e = .returned (.bool false) ∧ GD w' a g gg dd N (loadA s (gaW d.at_)) { d with out := ldW s.W (gaW d.at_), second := true } ∧ Turns [a, g, dd] w w' := by
  have HF := Lib.hid (fun W (k : GD W a g gg dd N s d) => gaOut k.ga k.ar d.at_ hn k.n32 ho)
  have K1 := Lib.hid (h.below (Below.refl _ _).drew)
  clear h
  go_enter Tryz.func94, Tryz.ntmps94
  go_wp2_with fail
  go_region_held3 (fun W => W.cell? ⟨dd, 0, none⟩ = some (.pointer (some ⟨gg, 0, none⟩)) ∧ W.cell? ⟨dd, 1, none⟩ = some (.int .i64 d.at_))
    (first | with_reducible exact ⟨K1.out.c.1, K1.out.c.2.1⟩ | with_reducible exact ⟨K2.out.c.1, K2.out.c.2.1⟩ | exact ⟨K3.out.c.1, K3.out.c.2.1⟩)
    (first
      | (go_at_call 105; go_loud (refine (HF.out _ K1.out).mono ?_); rintro en w3 ⟨rfl, a3, t3⟩; have K2 := Lib.hid (K1.out.op t3 a3); have T2 := Lib.hid (((Turns.refl [a, g, dd] w).drew).trans (turns_agq t3)); have K3 := Lib.hid (K2.out.set (i := 6) (u := .int .i64 (ldW s.W (gaW d.at_))) (d' := { d with out := ldW s.W (gaW d.at_) }) rfl); have e4 := K2.out.c.2.2.2.2.2.2.1; have z1 := K2.out.dr.free 6; clear a3 t3))
  all_goals
    have e5 := K3.out.c.2.2.2.2.2.1
    have z5 := K3.out.dr.free 5
    have K4 := Lib.hid (K3.out.set (i := 5) (u := .bool true) (d' := { d with out := ldW s.W (gaW d.at_), second := true }) rfl)
    clear e4 z1
    go_wp2
    go_ret
    exact ⟨rfl, K4.out, (T2.out.trans td_dd).trans td_dd⟩
set_option maxRecDepth 100000 in
set_option maxHeartbeats 4000000 in
theorem drLastW (h : GD w a g gg dd N s d) (hn : d.at_ < N) (ho : s.ops + 1 ≤ 1000000000000) : Calls Tryz.prog 95 #[.pointer (some ⟨dd, 0, none⟩)] w fun e w' => e = .returned (.bool (drLast s d).2) ∧ GD w' a g gg dd N (loadA s (gaA d.at_)) (drLast s d).1 ∧ Turns [a, g, dd] w w' := by
  obtain ⟨v, hv⟩ : ∃ v, v = ldW s.W (gaA d.at_) := ⟨_, rfl⟩
  have HX : Hid (drLast s d = if v ≠ d.out then if d.once then ({ d with second := false, busy := false, clear := false }, true) else ({ d with second := false }, false) else if d.at_ + 1 = d.lim then ({ d with second := false, at_ := d.at_ + 1, busy := false, clear := true }, true) else ({ d with second := false, at_ := d.at_ + 1 }, false)) := Lib.hid (by rw [hv]; rfl)
  have HF0 := (fun W d' (k : GD W a g gg dd N s d') (he : d'.at_ = d.at_) => gaIn k.ga k.ar d.at_ hn k.n32 ho)
  rw [← hv] at HF0
  have HF := Lib.hid HF0
  have c5 := h.c.2.2.2.2.2.1
  have z5 := h.dr.free 5
  have K0 := Lib.hid (h.set (i := 5) (u := .bool false) (d' := { d with second := false }) rfl)
  have K1 := Lib.hid (K0.out.below (Below.refl _ _).drew)
  have T1 := Lib.hid (show Turns [a, g, dd] w ((w.setCell ⟨dd, 5, none⟩ (.bool false)).drew) from td_dd.drew)
  have hn32 := h.n32
  have x1 : IntKind.i64.wrap ((d.at_ : Int) + 1) = ((d.at_ + 1 : Nat) : Int) := by rw [IntWalk.i64_in _ (by omega)]; omega
  obtain ⟨ar', har⟩ : ∃ q, q = loadA s (gaA d.at_) := ⟨_, rfl⟩
  rw [← har] at HF ⊢
  clear h hv HF0 har
  obtain ⟨at_, lim, once, busy, second, out, clear_⟩ := d
  simp only at HX HF x1 hn
  obtain ⟨nI, hnI⟩ : ∃ nI : Int, nI = ((at_ + 1 : Nat) : Int) := ⟨_, rfl⟩
  obtain ⟨lI, hlI⟩ : ∃ lI : Int, lI = (lim : Int) := ⟨_, rfl⟩
  rw [← hnI] at x1
  have HE : Hid (nI = ((at_ + 1 : Nat) : Int) ∧ lI = (lim : Int)) := Lib.hid ⟨hnI, hlI⟩
  clear hnI hlI
  cases hq : (v != out)
  · have hq' : Hid (v = out) := Lib.hid (by simpa using hq)
    cases u1 : (nI == lI)
    · have he' : Hid (¬ (at_ + 1 = lim)) := Lib.hid (by have e := HE.out; have : ¬ nI = lI := by simpa using u1
                                                        omega)
      go_enter Tryz.func95, Tryz.ntmps95
      go_wp2_with fail
      go_region_held3 (fun W => W.cell? ⟨dd, 0, none⟩ = some (.pointer (some ⟨gg, 0, none⟩)) ∧ W.cell? ⟨dd, 1, none⟩ = some (.int .i64 at_))
        (first | with_reducible exact ⟨K1.out.c.1, K1.out.c.2.1⟩ | with_reducible exact ⟨K2.out.c.1, K2.out.c.2.1⟩)
        (first
          | (go_at_call 106; go_loud (refine (HF.out _ _ K1.out rfl).mono ?_); rintro en w3 ⟨rfl, a3, t3⟩; have K2 := Lib.hid (K1.out.op t3 a3); have T2 := Lib.hid (T1.out.trans (turns_agq t3)); clear a3 t3))
      have e1 := K2.out.c.2.1
      have e6 := K2.out.c.2.2.2.2.2.2.1
      have e3 := K2.out.c.2.2.2.1
      have z1 := K2.out.dr.free 1
      have K3 := Lib.hid (K2.out.set (i := 1) (u := .int .i64 nI) (d' := ⟨at_ + 1, lim, once, busy, false, out, clear_⟩) (by rw [HE.out.1]; rfl))
      have K4 := Lib.hid (K3.out.below (Below.refl _ _).drew)
      have T4 := Lib.hid (show Turns [a, g, dd] w ((w3.setCell ⟨dd, 1, none⟩ (.int .i64 nI)).drew) from (T2.out.trans td_dd).drew)
      go_wp2_with fail
      refine wp_region_held_drew (S := (fun W => W.cell? ⟨dd, 1, none⟩ = some (.int .i64 nI) ∧ W.cell? ⟨dd, 2, none⟩ = some (.int .i64 lI))) (by kernel_rfl) (by exact ⟨K4.out.c.2.1.trans (by rw [HE.out.1]), K4.out.c.2.2.1.trans (by rw [HE.out.2])⟩) (fun hHeld => ?_)
      refine wpAnyH_take (i := 0) (v := ?v0) rfl (by kernel_rfl) (by kernel_rfl) (by kernel_rfl) (fun _ _ _ h => h) (Or.inl ⟨by rfl, ?hy0⟩) (by assumption) ?_
      case hy0 => (intro W hSw; (try dsimp only at hSw); go_simp; try with_reducible rfl)
      try simp only [Act.put, List.setIfInBounds_toArray, List.set_cons_zero, List.set_cons_succ, List.getElem_toArray, List.getElem_cons_zero, List.getElem_cons_succ]
      refine wpAnyH_take (i := 1) (v := ?v1) rfl (by kernel_rfl) (by kernel_rfl) (by kernel_rfl) (fun _ _ _ h => h) (Or.inl ⟨by rfl, ?hy1⟩) (by assumption) ?_
      case hy1 => (intro W hSw; (try dsimp only at hSw); go_simp; try with_reducible rfl)
      try simp only [Act.put, List.setIfInBounds_toArray, List.set_cons_zero, List.set_cons_succ, List.getElem_toArray, List.getElem_cons_zero, List.getElem_cons_succ]
      refine wpAnyH_take (i := 2) (v := ?v2) rfl (by kernel_rfl) (by kernel_rfl) (by kernel_rfl) (fun _ _ _ h => h) (Or.inl ⟨by rfl, ?hy2⟩) (by assumption) ?_
      case hy2 => (intro W hSw; (try dsimp only at hSw); go_simp; try with_reducible rfl)
      try simp only [Act.put, List.setIfInBounds_toArray, List.set_cons_zero, List.set_cons_succ, List.getElem_toArray, List.getElem_cons_zero, List.getElem_cons_succ]
      refine wpAnyH_take (i := 3) (v := ?v3) rfl (by kernel_rfl) (by kernel_rfl) (by kernel_rfl) (fun _ _ _ h => h) (Or.inl ⟨by rfl, ?hy3⟩) (by assumption) ?_
      case hy3 => (intro W hSw; (try dsimp only at hSw); go_simp; try with_reducible rfl)
      try simp only [Act.put, List.setIfInBounds_toArray, List.set_cons_zero, List.set_cons_succ, List.getElem_toArray, List.getElem_cons_zero, List.getElem_cons_succ]
      refine wpAnyH_take (i := 4) (v := ?v4) rfl (by kernel_rfl) (by kernel_rfl) (by kernel_rfl) (fun _ _ _ h => h) (Or.inl ⟨by rfl, ?hy4⟩) (by assumption) ?_
      case hy4 => (intro W hSw; (try dsimp only at hSw); go_simp; try with_reducible rfl)
      try simp only [Act.put, List.setIfInBounds_toArray, List.set_cons_zero, List.set_cons_succ, List.getElem_toArray, List.getElem_cons_zero, List.getElem_cons_succ]
      refine wpAnyH_take (i := 5) (v := ?v5) rfl (by kernel_rfl) (by kernel_rfl) (by kernel_rfl) (fun _ _ _ h => h) (Or.inl ⟨by rfl, ?hy5⟩) (by assumption) ?_
      case hy5 => (intro W hSw; (try dsimp only at hSw); go_simp; try with_reducible rfl)
      try simp only [Act.put, List.setIfInBounds_toArray, List.set_cons_zero, List.set_cons_succ, List.getElem_toArray, List.getElem_cons_zero, List.getElem_cons_succ]
      refine wpAnyH_take (i := 6) (v := ?v6) rfl (by kernel_rfl) (by kernel_rfl) (by kernel_rfl) (fun _ _ _ h => h) (Or.inl ⟨by rfl, ?hy6⟩) (by assumption) ?_
      case hy6 => (intro W hSw; (try dsimp only at hSw); go_simp; try with_reducible rfl)
      try simp only [Act.put, List.setIfInBounds_toArray, List.set_cons_zero, List.set_cons_succ, List.getElem_toArray, List.getElem_cons_zero, List.getElem_cons_succ]
      refine wpAnyH_take (i := 7) (v := ?v7) rfl (by kernel_rfl) (by kernel_rfl) (by kernel_rfl) (fun _ _ _ h => h) (Or.inl ⟨by rfl, ?hy7⟩) (by assumption) ?_
      case hy7 => (intro W hSw; (try dsimp only at hSw); go_simp; try with_reducible rfl)
      try simp only [Act.put, List.setIfInBounds_toArray, List.set_cons_zero, List.set_cons_succ, List.getElem_toArray, List.getElem_cons_zero, List.getElem_cons_succ]
      refine wpAnyH_take (i := 8) (v := ?v8) rfl (by kernel_rfl) (by kernel_rfl) (by kernel_rfl) (fun _ _ _ h => h) (Or.inl ⟨by rfl, ?hy8⟩) (by assumption) ?_
      case hy8 => (intro W hSw; (try dsimp only at hSw); go_simp; try with_reducible rfl)
      try simp only [Act.put, List.setIfInBounds_toArray, List.set_cons_zero, List.set_cons_succ, List.getElem_toArray, List.getElem_cons_zero, List.getElem_cons_succ]
      refine wpAnyH_take (i := 9) (v := ?v9) rfl (by kernel_rfl) (by kernel_rfl) (by kernel_rfl) (fun _ _ _ h => h) (Or.inl ⟨by rfl, ?hy9⟩) (by assumption) ?_
      case hy9 => (intro W hSw; (try dsimp only at hSw); go_simp; try with_reducible rfl)
      try simp only [Act.put, List.setIfInBounds_toArray, List.set_cons_zero, List.set_cons_succ, List.getElem_toArray, List.getElem_cons_zero, List.getElem_cons_succ]
      refine wpAnyH_take (i := 10) (v := undef) rfl (by kernel_rfl) (by kernel_rfl) (by kernel_rfl) (fun _ _ _ h => h) (Or.inr ⟨by rfl, rfl⟩) (by assumption) ?_
      try simp only [Act.put, List.setIfInBounds_toArray, List.set_cons_zero, List.set_cons_succ, List.getElem_toArray, List.getElem_cons_zero, List.getElem_cons_succ]
      refine wpAnyH_take (i := 11) (v := undef) rfl (by kernel_rfl) (by kernel_rfl) (by kernel_rfl) (fun _ _ _ h => h) (Or.inr ⟨by rfl, rfl⟩) (by assumption) ?_
      try simp only [Act.put, List.setIfInBounds_toArray, List.set_cons_zero, List.set_cons_succ, List.getElem_toArray, List.getElem_cons_zero, List.getElem_cons_succ]
      refine wpAnyH_take (i := 12) (v := ?v12) rfl (by kernel_rfl) (by kernel_rfl) (by kernel_rfl) (fun _ _ _ h => h) (Or.inl ⟨by rfl, ?hy12⟩) (by assumption) ?_
      case hy12 => (intro W hSw; (try dsimp only at hSw); go_simp; try with_reducible rfl)
      try simp only [Act.put, List.setIfInBounds_toArray, List.set_cons_zero, List.set_cons_succ, List.getElem_toArray, List.getElem_cons_zero, List.getElem_cons_succ]
      refine wpAnyH_take (i := 13) (v := ?v13) rfl (by kernel_rfl) (by kernel_rfl) (by kernel_rfl) (fun _ _ _ h => h) (Or.inl ⟨by rfl, ?hy13⟩) (by assumption) ?_
      case hy13 => (intro W hSw; (try dsimp only at hSw); go_simp; try with_reducible rfl)
      try simp only [Act.put, List.setIfInBounds_toArray, List.set_cons_zero, List.set_cons_succ, List.getElem_toArray, List.getElem_cons_zero, List.getElem_cons_succ]
      refine wpAnyH_done (by kernel_rfl) ?_ _
      go_wp2
      go_ret
      rw [HX.out, if_neg (by simpa using hq'.out), if_neg he'.out]
      exact ⟨rfl, K4.out, T4.out⟩
    · have he' : Hid (at_ + 1 = lim) := Lib.hid (by have e := HE.out; have : nI = lI := by simpa using u1
                                                    omega)
      go_enter Tryz.func95, Tryz.ntmps95
      go_wp2_with fail
      go_region_held3 (fun W => W.cell? ⟨dd, 0, none⟩ = some (.pointer (some ⟨gg, 0, none⟩)) ∧ W.cell? ⟨dd, 1, none⟩ = some (.int .i64 at_))
        (first | with_reducible exact ⟨K1.out.c.1, K1.out.c.2.1⟩ | with_reducible exact ⟨K2.out.c.1, K2.out.c.2.1⟩)
        (first
          | (go_at_call 106; go_loud (refine (HF.out _ _ K1.out rfl).mono ?_); rintro en w3 ⟨rfl, a3, t3⟩; have K2 := Lib.hid (K1.out.op t3 a3); have T2 := Lib.hid (T1.out.trans (turns_agq t3)); clear a3 t3))
      have e1 := K2.out.c.2.1
      have e6 := K2.out.c.2.2.2.2.2.2.1
      have e3 := K2.out.c.2.2.2.1
      have z1 := K2.out.dr.free 1
      have K3 := Lib.hid (K2.out.set (i := 1) (u := .int .i64 nI) (d' := ⟨at_ + 1, lim, once, busy, false, out, clear_⟩) (by rw [HE.out.1]; rfl))
      have K4 := Lib.hid (K3.out.below (Below.refl _ _).drew)
      have T4 := Lib.hid (show Turns [a, g, dd] w ((w3.setCell ⟨dd, 1, none⟩ (.int .i64 nI)).drew) from (T2.out.trans td_dd).drew)
      go_wp2_with fail
      have HOV := Lib.hid (drOver K4.out true)
      go_region_held3 (fun W => W.cell? ⟨dd, 1, none⟩ = some (.int .i64 nI) ∧ W.cell? ⟨dd, 2, none⟩ = some (.int .i64 lI))
        (first | exact ⟨K4.out.c.2.1.trans (by rw [HE.out.1]), K4.out.c.2.2.1.trans (by rw [HE.out.2])⟩ | exact ⟨K5.out.c.2.1.trans (by rw [HE.out.1]), K5.out.c.2.2.1.trans (by rw [HE.out.2])⟩)
        (first
          | (go_at_call 92; go_loud (refine HOV.out.mono ?_); rintro en w5 ⟨rfl, k5, t5⟩; have K5 := Lib.hid k5; have T5 := Lib.hid (T4.out.trans t5); clear k5 t5))
      go_wp2
      go_ret
      rw [HX.out, if_neg (by simpa using hq'.out), if_pos he'.out]
      exact ⟨rfl, K5.out, T5.out⟩
  · have hq' : Hid (¬ v = out) := Lib.hid (by simpa using hq)
    cases once
    · skip
      go_enter Tryz.func95, Tryz.ntmps95
      go_wp2_with fail
      go_region_held3 (fun W => W.cell? ⟨dd, 0, none⟩ = some (.pointer (some ⟨gg, 0, none⟩)) ∧ W.cell? ⟨dd, 1, none⟩ = some (.int .i64 at_))
        (first | with_reducible exact ⟨K1.out.c.1, K1.out.c.2.1⟩ | with_reducible exact ⟨K2.out.c.1, K2.out.c.2.1⟩)
        (first
          | (go_at_call 106; go_loud (refine (HF.out _ _ K1.out rfl).mono ?_); rintro en w3 ⟨rfl, a3, t3⟩; have K2 := Lib.hid (K1.out.op t3 a3); have T2 := Lib.hid (T1.out.trans (turns_agq t3)); clear a3 t3))
      have e6 := K2.out.c.2.2.2.2.2.2.1
      have e3 := K2.out.c.2.2.2.1
      go_wp2
      go_ret
      rw [HX.out, if_pos hq'.out]
      exact ⟨rfl, K2.out, T2.out⟩
    · skip
      go_enter Tryz.func95, Tryz.ntmps95
      go_wp2_with fail
      go_region_held3 (fun W => W.cell? ⟨dd, 0, none⟩ = some (.pointer (some ⟨gg, 0, none⟩)) ∧ W.cell? ⟨dd, 1, none⟩ = some (.int .i64 at_))
        (first | with_reducible exact ⟨K1.out.c.1, K1.out.c.2.1⟩ | with_reducible exact ⟨K2.out.c.1, K2.out.c.2.1⟩)
        (first
          | (go_at_call 106; go_loud (refine (HF.out _ _ K1.out rfl).mono ?_); rintro en w3 ⟨rfl, a3, t3⟩; have K2 := Lib.hid (K1.out.op t3 a3); have T2 := Lib.hid (T1.out.trans (turns_agq t3)); clear a3 t3))
      have e6 := K2.out.c.2.2.2.2.2.2.1
      have e3 := K2.out.c.2.2.2.1
      have HOV := Lib.hid (drOver K2.out false)
      go_wp2_with fail
      refine HOV.out.mono ?_
      rintro en w5 ⟨rfl, k5, t5⟩
      have K5 := Lib.hid k5
      have T5 := Lib.hid (T2.out.trans t5)
      clear k5 t5
      go_wp2
      go_ret
      rw [HX.out, if_pos hq'.out]
      exact ⟨rfl, K5.out, T5.out⟩
set_option maxHeartbeats 1000000 in
theorem drStepW (h : GD w a g gg dd N s d) (hn : d.busy = true → d.at_ < N) (ho : s.ops + 1 ≤ 1000000000000) : Calls Tryz.prog 63 #[.pointer (some ⟨dd, 0, none⟩)] w fun e w' => e = .returned (.bool (drStep s d).2.2) ∧ GD w' a g gg dd N (drStep s d).1 (drStep s d).2.1 ∧ Turns [a, g, dd] w w' := by
  have HB := Lib.hid (drBusy h)
  have c5 := h.c.2.2.2.2.2.1
  have H := Lib.hid h
  cases hb : d.busy
  · have HX : Hid (drStep s d = (s, d, false)) := Lib.hid (by unfold drStep; rw [hb]; rfl)
    rw [hb] at HB
    clear h
    go_enter Tryz.func63, Tryz.ntmps63
    go_wp2_with fail
    refine HB.out.mono ?_
    rintro en w1 ⟨rfl, rfl⟩
    go_wp2
    go_ret
    rw [HX.out]
    exact ⟨rfl, H.out, Turns.refl _ _⟩
  · have hn' := hn hb
    rw [hb] at HB
    cases hs2 : d.second
    · have HF := Lib.hid (drFirst h hn' ho)
      have HX : Hid (drStep s d = (loadA s (gaW d.at_), { d with out := ldW s.W (gaW d.at_), second := true }, false)) := Lib.hid (by unfold drStep; rw [hb, hs2]; rfl)
      rw [hs2] at c5
      clear h hb hs2
      go_enter Tryz.func63, Tryz.ntmps63
      go_wp2_with fail
      refine HB.out.mono ?_
      rintro en w1 ⟨rfl, rfl⟩
      go_wp2_with fail
      refine HF.out.mono ?_
      rintro en w2 ⟨rfl, k2, t2⟩
      have H2 := Lib.hid (And.intro k2 t2)
      clear k2 t2
      go_wp2
      go_ret
      rw [HX.out]
      exact ⟨rfl, H2.out⟩
    · have HF := Lib.hid (drLastW h hn' ho)
      have HX : Hid (drStep s d = (loadA s (gaA d.at_), drLast s d)) := Lib.hid (by unfold drStep; rw [hb, hs2]; rfl)
      rw [hs2] at c5
      clear h hb hs2
      go_enter Tryz.func63, Tryz.ntmps63
      go_wp2_with fail
      refine HB.out.mono ?_
      rintro en w1 ⟨rfl, rfl⟩
      go_wp2_with fail
      refine HF.out.mono ?_
      rintro en w2 ⟨rfl, k2, t2⟩
      have H2 := Lib.hid (And.intro k2 t2)
      clear k2 t2
      go_wp2
      go_ret
      rw [HX.out]
      exact ⟨rfl, H2.out⟩
end
end Go.Proofs.YtmlcfmickonfbaaGreat
end
section
set_option linter.unusedVariables false
set_option linter.unusedSimpArgs false
/- Layers 34 to 38, plain: what the locks of readers and writers share: counts, low words, the cohort lock beside them. No program in sight. -/
namespace Go.Proofs.YtmlcfmickonfbaaGreat
open Go

/-- how many threads below n have a property -/
def cntN (n : Nat) (P : Nat → Bool) : Nat := (List.range n).countP P
theorem cntN_succ (n : Nat) (P : Nat → Bool) : cntN (n + 1) P = cntN n P + if P n then 1 else 0 := by
  unfold cntN
  rw [List.range_succ, List.countP_append, List.countP_singleton]
theorem cntN_one {P Q : Nat → Bool} {i : Nat} (hne : ∀ j, j ≠ i → Q j = P j) : ∀ n, i < n → cntN n Q + (if P i then 1 else 0) = cntN n P + (if Q i then 1 else 0)
  | 0, h => by omega
  | n + 1, h => by
    rw [cntN_succ, cntN_succ]
    by_cases e : i = n
    · subst e
      have : cntN i Q = cntN i P := by
        unfold cntN
        refine List.countP_congr (fun x hx => ?_)
        rw [hne x (by have := List.mem_range.1 hx; omega)]
      rw [this]; omega
    · have ih := cntN_one (P := P) (Q := Q) hne n (by omega)
      rw [hne n (fun h2 => e h2.symm)]; omega
theorem cntN_same {P Q : Nat → Bool} (n : Nat) (h : ∀ j, j < n → Q j = P j) : cntN n Q = cntN n P := by
  unfold cntN
  exact List.countP_congr (fun x hx => by rw [h x (List.mem_range.1 hx)])
theorem cntN_pos {P : Nat → Bool} : ∀ {n i : Nat}, i < n → P i = true → 0 < cntN n P
  | 0, i, h, _ => by omega
  | n + 1, i, h, hp => by
    rw [cntN_succ]
    by_cases e : i = n
    · subst e; rw [hp]; simp
    · have := cntN_pos (n := n) (P := P) (i := i) (by omega) hp
      omega
section
variable {c : CoC} {n N : Nat} {ml : Nat → Nat} {st st' : Co}
theorem szI_nn (k n : Nat) {m : Int} (h : 1 ≤ m) : 0 ≤ szI k n m := by unfold szI; (repeat' split) <;> omega
/-- words below the cohort lock's own turn: it does not mind -/
theorem CoM.low (h : CoM c n N ml st) (y : CoLy c n N ml) {s' : Ar} (hl : s'.W.length = st.s.W.length) (hf : ∀ x, c.tg ≤ x → ldW s'.W x = ldW st.s.W x) (hv : CoV c n { st with s := s' }) : CoM c n N ml { st with s := s' } := by
  have hz := szI_nn c.kg N h.fG.m1
  have hc : ∀ a, a < N → ldW s'.W (c.cw a) = ldW st.s.W (c.cw a) := fun a ha => hf _ (by have := y.gl a ha; have := y.cw a ha; have := y.sz a ha; omega)
  refine ⟨h.fG.frame hl (fun x h1 _ => hf x h1), fun a ha => (h.fL a ha).frame hl (fun x h1 _ => hf x (by have := y.gl a ha; omega)), h.lL, fun a ha => by show 1 ≤ _ ∧ _ ≤ (s'.W.length : Int); rw [hl]; exact h.lW a ha, hv, fun j hj => ?_, fun a ha hq => ?_⟩
  · show StP _ _ (ldW s'.W _)
    rw [hc _ (y.nd j hj).1]; exact h.sj j hj
  · show FrP _ (ldW s'.W _)
    rw [hc a ha]; exact h.fr a ha hq
theorem CoV.ars (h : CoV c n st) (s' : Ar) : CoV c n { st with s := s' } := ⟨h.g, h.l, h.k, h.lT, h.lG, h.lL⟩
/-- the cohort lock writes no word below its own -/
theorem CoM.stepLow (h : CoM c n N ml st) (y : CoLy c n N ml) {B : Int} (hB : CoB c B st) (hB0 : 1 ≤ B) (hB1 : B ≤ 10000000000000) {i : Nat} (hi : i < n) : ∀ x, x < c.tg → ldW (coStep c st i).s.W x = ldW st.s.W x := by
  intro x hx
  have ha := y.nd i hi
  have hz := szI_nn c.kg N h.fG.m1
  have g1 := y.gl _ ha.1
  have c1 := y.cw _ ha.1
  have s1 := y.sz _ ha.1
  have LS := ((h.fL _ ha.1).step y.k.2 hB.w (by omega) hB1 ha.2 (h.v.lpc hi)).2 x (by omega)
  have GS := (h.fG.step y.k.1 hB.w (by omega) hB1 ha.1 (h.v.gpc hi)).2 x (by omega)
  have CS : ∀ u, ldW (stW st.s.W (c.cw (c.node i)) u) x = ldW st.s.W x := fun u => by rw [ldW_st (inR_true.2 (h.lW _ ha.1)), if_neg (by omega)]
  have key : ∀ p, ldW (coMv c st i p).1.W x = ldW st.s.W x := fun p => by
    unfold coMv coIn coOut
    (repeat' split) <;> (try dsimp only) <;> first
      | rfl
      | exact LS
      | exact GS
      | (rw [loadA_W])
      | (rw [storeA_W]; exact CS _)
      | (unfold aloneK
         (repeat' split) <;> first | rfl | rw [loadA_W])
  unfold coStep
  split
  · rfl
  · exact key _
theorem coAsk_s (c : CoC) (st : Co) (i : Nat) : (coAsk c st i).s = st.s := by unfold coAsk; split <;> rfl
theorem coLeave_s (st : Co) (i : Nat) : (coLeave st i).s = st.s := by unfold coLeave; split <;> rfl
/-- where a thread of the cohort lock comes -/
theorem coStep_T (h : CoV c n st) {i j : Nat} (hi : i < n) (hj : j ≠ i) : sv (coStep c st i).T j = sv st.T j := by
  unfold coStep
  split
  · rfl
  · show sv (st.T.set i _) j = _
    rw [svS (by have := h.lT; omega), if_neg hj]
theorem coAsk_T (h : CoV c n st) {i j : Nat} (hi : i < n) : (j ≠ i → sv (coAsk c st i).T j = sv st.T j) ∧ ((sv st.T i).pc = 0 → (sv (coAsk c st i).T i).pc = 1) := by
  unfold coAsk
  have hl : i < st.T.length := by have := h.lT; omega
  constructor
  · intro hj
    split
    · show sv (st.T.set i _) j = _
      rw [svS hl, if_neg hj]
    · rfl
  · intro h0
    rw [if_pos h0]
    show (sv (st.T.set i _) i).pc = 1
    rw [svS hl, if_pos rfl]
theorem coLeave_T (h : CoV c n st) {i j : Nat} (hi : i < n) : (j ≠ i → sv (coLeave st i).T j = sv st.T j) ∧ ((sv st.T i).pc = 10 → (sv (coLeave st i).T i).pc = 11) := by
  unfold coLeave
  have hl : i < st.T.length := by have := h.lT; omega
  constructor
  · intro hj
    split
    · show sv (st.T.set i _) j = _
      rw [svS hl, if_neg hj]
    · rfl
  · intro h0
    rw [if_pos h0]
    show (sv (st.T.set i _) i).pc = 11
    rw [svS hl, if_pos rfl]
/-- a thread that comes in stays on its way, or holds; one that goes out stays on its way, or rests -/
theorem coStep_at (h : CoV c n st) {i : Nat} (hi : i < n) :
    (0 < (sv st.T i).pc ∧ (sv st.T i).pc < 10 → (0 < (sv (coStep c st i).T i).pc ∧ (sv (coStep c st i).T i).pc ≤ 10) ∧ cameK (sv st.T i) (sv (coStep c st i).T i) = decide ((sv (coStep c st i).T i).pc = 10)) ∧
    (10 < (sv st.T i).pc → ((sv (coStep c st i).T i).pc = 0 ∨ 10 < (sv (coStep c st i).T i).pc) ∧ cameK (sv st.T i) (sv (coStep c st i).T i) = decide ((sv (coStep c st i).T i).pc = 0)) := by
  have hl : i < st.T.length := by have := h.lT; omega
  have hlk := h.k i hi
  obtain ⟨p, hp⟩ : ∃ p, p = sv st.T i := ⟨_, rfl⟩
  have e : ¬ (p.pc = 0 ∨ p.pc = 10) → sv (coStep c st i).T i = (coMv c st i p).2.2.2 := fun hne => by
    unfold coStep
    rw [← hp, if_neg hne]
    show sv (st.T.set i _) i = _
    rw [svS hl, if_pos rfl]
  rw [← hp] at hlk ⊢
  refine ⟨fun hc => ?_, fun hc => ?_⟩
  · rw [e (by omega)]
    have key : 0 < (coMv c st i p).2.2.2.pc ∧ (coMv c st i p).2.2.2.pc ≤ 10 := by
      obtain ⟨pc, u, b, z⟩ := p
      have hx : pc = 1 ∨ pc = 2 ∨ pc = 3 ∨ pc = 4 := by unfold linkP at hlk; simp only at hlk hc; omega
      rcases hx with rfl | rfl | rfl | rfl
      · rw [mv1]; simp only; split <;> simp
      · rw [mv2]; split <;> simp
      · rw [mv3]; simp only; split <;> simp
      · rw [mv4]; simp
    exact ⟨key, came_in hc.1 hc.2 key.1⟩
  · rw [e (by omega)]
    have key : (coMv c st i p).2.2.2.pc = 0 ∨ 10 < (coMv c st i p).2.2.2.pc := by
      obtain ⟨pc, u, b, z⟩ := p
      have hx : pc = 11 ∨ pc = 12 ∨ pc = 13 ∨ pc = 14 ∨ pc = 15 ∨ pc = 16 := by unfold linkP at hlk; simp only at hlk hc; omega
      rcases hx with rfl | rfl | rfl | rfl | rfl | rfl
      · rw [mv11]; simp only; split <;> simp
      · rw [mv12]; simp only; split <;> simp
      · rw [mv13]; simp
      · rw [mv14]; simp
      · rw [mv15]; split <;> simp
      · rw [mv16]; simp only; split <;> simp
    exact ⟨key, came_out hc key⟩
end
end Go.Proofs.YtmlcfmickonfbaaGreat
end
section
set_option linter.unusedVariables false
set_option linter.unusedSimpArgs false
/- Layer 36 (neutral), plain: a step, an ask, a leave; a writer holds alone. No program in sight. -/
namespace Go.Proofs.YtmlcfmickonfbaaGreat
open Go

structure Nu where
  st : Co
  d : Dr
  U : List Sp
def nuFl (N : Nat) : Int := 2 * (N : Int) + 1
def onA (st : Co) (s : Ar) : Co := { st with s := s }
def nuAsk (c : CoC) (x : Nu) (i : Nat) (read : Bool) : Nu :=
  if (sv x.U i).pc = 0 then if read then { x with U := x.U.set i ⟨1, 1, 0, 0⟩ } else { x with st := coAsk c x.st i, U := x.U.set i ⟨7, 0, 0, 0⟩ } else x
def nuLeave (x : Nu) (i : Nat) : Nu := if (sv x.U i).pc = 10 then { x with U := x.U.set i { (sv x.U i) with pc := 12 - (sv x.U i).a } } else x
section
variable {c : CoC} {n N : Nat} {ml : Nat → Nat} {x x' : Nu}
/-- the low words, and the cohort lock beside an op on one of them -/
structure NuL (c : CoC) (N : Nat) (W : List Int) : Prop where
  tg : c.tg = 2 * (N : Int) + 2
  len : 2 * (N : Int) + 1 ≤ W.length
theorem gaA_lt {a : Nat} (h : a < N) : 1 ≤ gaA a ∧ gaA a < nuFl N := by unfold gaA nuFl; omega
theorem gaW_lt {a : Nat} (h : a < N) : 1 ≤ gaW a ∧ gaW a < nuFl N := by unfold gaW nuFl; omega
end
end Go.Proofs.YtmlcfmickonfbaaGreat
end
section
set_option linter.unusedVariables false
set_option linter.unusedSimpArgs false
/- Layer 36 (neutral), plain: each act keeps the invariant. No program in sight. -/
namespace Go.Proofs.YtmlcfmickonfbaaGreat
open Go

section
variable {c : CoC} {n N : Nat} {ml : Nat → Nat} {x : Nu} {B : Int}
theorem drStep_W (s : Ar) (d : Dr) : (drStep s d).1.W = s.W := by
  unfold drStep
  split
  · split
    · exact loadA_W _ _
    · exact loadA_W _ _
  · rfl
end
end Go.Proofs.YtmlcfmickonfbaaGreat
end
