/- Joined: Fd3. -/
import Derived.Test.YtfiigndlnihioaaGreatMgFamilyDoorway13
section
/- FamilyDoorway: the walk of the law. -/
namespace Go.Proofs.YtfiigndlnihioaaGreat
open Go.RowKit

theorem CoBlk.cos {x : Cox} {B : Nat → Prop} {a g lo : Nat} (h : ∀ i, CoBlk x B i → lo ≤ i) (ha : lo ≤ a) (hg : lo ≤ g) : ∀ i ∈ CoS a g x, lo ≤ i := by
  intro i hi
  unfold CoS at hi
  simp only [List.mem_cons] at hi
  rcases hi with rfl | rfl | rfl | rfl | hi
  · exact ha
  · exact hg
  · exact h _ (.inr (.inr (.inl rfl)))
  · exact h _ (.inr (.inr (.inr (.inl (.inr (.inr rfl))))))
  · obtain ⟨y, hy, rfl⟩ := List.mem_map.1 hi
    exact h _ (.inr (.inr (.inr (.inr (.inl ⟨y, hy, .inr (.inr rfl)⟩)))))
set_option maxRecDepth 100000 in
set_option maxHeartbeats 4000000 in
theorem doorway (w : World) (b0 n0 : Nat) (hb0 : b0 < 65536) (hn0 : n0 < 256) :
    Calls Tryz.prog 3 #[.int .u16 b0, .int .u8 n0] w fun e w' => e = .returned (.bool true) ∧ Below w.heap.size w w' := by
  have hfield := field_pc
  obtain ⟨b, hb⟩ : ∃ b : Nat, b = b0 % 1001 := ⟨_, rfl⟩
  obtain ⟨n, hn⟩ : ∃ n : Nat, n = n0 % 21 := ⟨_, rfl⟩
  have e1 : (b0 : Int) % 1001 = (b : Int) := by rw [hb]; omega
  have e2 : (n0 : Int) % 21 = (n : Int) := by rw [hn]; omega
  have hb1 : b ≤ 1000 := by omega
  have hn1 : n ≤ 20 := by omega
  clear hb hn
  have hO := outN_le (b : Int)
  have hpl := partL_len (b : Int) n
  have hsl := scriptL_len (b : Int) n
  obtain ⟨o, ho⟩ : ∃ o, o = outN (b : Int) := ⟨_, rfl⟩
  rw [← ho] at hO hpl hsl
  have hmul : n * (9 + o) ≤ 20 * 15 := Nat.mul_le_mul hn1 (by omega)
  obtain ⟨pl, hpl'⟩ : ∃ pl, pl = 4 + n * (9 + o) := ⟨_, rfl⟩
  have hpl1 : pl ≤ 304 := by omega
  have hpl4 : 4 ≤ pl := by omega
  have HSC := Lib.hid (fun w => script_call (b : Int) (n : Int) n rfl w (by omega) (by omega) (by rw [← ho]; omega))
  have HPL := Lib.hid (hpl.trans hpl'.symm)
  have HSL := Lib.hid (show (scriptL (b : Int) n).length = pl + 4 by rw [hsl, hpl'])
  have HW := Lib.hid (fun w => world45 (b : Int) w)
  have HAW := Lib.hid awake45
  clear ho hpl hsl hmul hpl' hO
  go_enter Tryz.func3, Tryz.ntmps3
  go_wp2_with fail
  refine (HSC.out _).mono ?_
  rintro en w1 ⟨v, rfl, hr, b1⟩
  obtain ⟨A, cap, rfl, hl1, hl2, hr⟩ := hr
  rw [HSL.out] at hl1 hl2 hr ⊢
  obtain ⟨bl, off, rfl, hbl, hrd⟩ := hr (by omega)
  have HRD := Lib.hid (And.intro hbl hrd)
  have HB1 := Lib.hid b1
  clear hr hbl hrd b1
  go_wp2_with fail
  refine (HW.out _).mono ?_
  rintro en w2 ⟨vP, vT, rfl, rP, rT, b2⟩
  obtain ⟨AP, cP, e3, _⟩ := id rP
  obtain ⟨AT, cT, e4, _⟩ := id rT
  obtain rfl : vP = .slice AP 3 cP := e3
  obtain rfl : vT = .slice AT 2 cT := e4
  have HB2 := Lib.hid (And.intro b2 (And.intro rP rT))
  have hs12 := b2.size
  clear b2 rP rT
  go_wp2_with fail
  obtain ⟨w3, hw3⟩ : ∃ W, W = (w2.alloc (.cells #[.slice AP 3 cP, .slice AT 2 cT] 29)).alloc (.cells #[.int .i64 6, .int .i64 2, .int .i64 4, .int .i64 1, .int .i64 b] 33) := ⟨_, rfl⟩
  rw [← hw3]
  have hs3 : w3.heap.size = w2.heap.size + 2 := by rw [hw3]; simp
  have HB3 := Lib.hid (show Below w2.heap.size w2 w3 from by rw [hw3]; exact ((Below.refl _ _).alloc (Nat.le_refl _) _).alloc (by simp) _)
  have k1 : Blk w3 w2.heap.size 29 #[.slice AP 3 cP, .slice AT 2 cT] := by rw [hw3]; exact (Blk.new w2 _ _).alloc _
  have k2 : Blk w3 (w2.heap.size + 1) 33 #[.int .i64 6, .int .i64 2, .int .i64 4, .int .i64 1, .int .i64 b] := by
    have := Blk.new (w2.alloc (.cells #[.slice AP 3 cP, .slice AT 2 cT] 29)) 33 #[.int .i64 6, .int .i64 2, .int .i64 4, .int .i64 1, .int .i64 b]
    rw [hw3]
    simpa using this
  have HPC : Hid (∀ W, Below w3.heap.size w3 W → W.cell? ⟨w2.heap.size, 0, none⟩ = some (.slice AP 3 cP) ∧ W.cell? ⟨w2.heap.size, 1, none⟩ = some (.slice AT 2 cT) ∧ W.cell? ⟨w2.heap.size + 1, 1, none⟩ = some (.int .i64 2) ∧ W.cell? ⟨w2.heap.size + 1, 2, none⟩ = some (.int .i64 4) ∧ W.cell? ⟨w2.heap.size + 1, 3, none⟩ = some (.int .i64 1) ∧ W.cell? ⟨w2.heap.size + 1, 4, none⟩ = some (.int .i64 b)) := Lib.hid fun W hW => by
    have t : Turns [] w3 W := Turns.of_below hW
    have j1 := t.blk k1 (by simp)
    have j2 := t.blk k2 (by simp)
    exact ⟨j1.cell 0, j1.cell 1, j2.cell 1, j2.cell 2, j2.cell 3, j2.cell 4⟩
  have HNA := Lib.hid (newA_any w3.drew 4096)
  have HRP := Lib.hid (fun W (hW : Below w3.heap.size w3 W) => And.intro (RdL.below (RdL.below HB2.out.2.1 HB3.out (Nat.le_refl _)) hW (Nat.le_refl _)) (RdL.below (RdL.below HB2.out.2.2 HB3.out (Nat.le_refl _)) hW (Nat.le_refl _)))
  have HCN := Lib.hid (fun W a g (hA : ArIs W a g (newAr 4096)) (hW : Below w3.heap.size w3 W) => cohortNewX hA (.slice AP 3 cP) (.slice AT 2 cT) P45 T45 (HRP.out W hW).1 (HRP.out W hW).2 chk45 2 4 (.inl rfl) (.inr rfl) 1 (by decide) (b : Int) (by omega) (by decide) (by decide))
  clear hw3 k1 k2
  go_wp2_with fail
  go_region_held3 (fun W => W.cell? ⟨w2.heap.size, 0, none⟩ = some (.slice AP 3 cP) ∧ W.cell? ⟨w2.heap.size, 1, none⟩ = some (.slice AT 2 cT) ∧ W.cell? ⟨w2.heap.size + 1, 1, none⟩ = some (.int .i64 2) ∧ W.cell? ⟨w2.heap.size + 1, 2, none⟩ = some (.int .i64 4) ∧ W.cell? ⟨w2.heap.size + 1, 3, none⟩ = some (.int .i64 1) ∧ W.cell? ⟨w2.heap.size + 1, 4, none⟩ = some (.int .i64 b))
    (first | with_reducible exact HPC.out _ (Below.refl _ _).drew | with_reducible exact HPC.out _ B4.out | with_reducible exact HPC.out _ B5.out)
    (first
      | (go_at_call 10; go_loud (refine HNA.out.mono ?_); rintro en w4 ⟨a, g, rfl, hA, ha, hg, b4⟩; have B4 := Lib.hid (show Below w3.heap.size w3 w4 from (Below.refl _ _).drew.trans b4); have HA := Lib.hid (And.intro hA (And.intro ha hg)); clear hA ha hg b4)
      | (go_at_call 9; go_loud (refine (HCN.out w4 a g HA.out.1 B4.out).mono ?_); rintro en w5 ⟨x, B, rfl, hco, hfr, t5⟩; have HCO := Lib.hid (And.intro hco (And.intro hfr t5)); have B5 := Lib.hid (show Below w3.heap.size w3 w5 from B4.out.trans (t5.below (fun i hi => by have e := HA.out.2; have e' : w3.drew.heap.size = w3.heap.size := rfl; simp at hi; omega) B4.out.size)); clear hco hfr t5))
  have HXN := Lib.hid (show x.n = 2 ∧ x.N = 2 from ⟨HCO.out.1.fx.nT, HCO.out.1.fx.nN⟩)
  have HLO := Lib.hid (show ∀ i ∈ CoS a g x, w3.heap.size ≤ i from CoBlk.cos (B := B) (fun i hi => Nat.le_trans B4.out.size (HCO.out.2.1 i hi)) HA.out.2.1 HA.out.2.2)
  have HRDW := Lib.hid (fun W (hW : Turns (CoS a g x) w5 W) (k : Nat) (pk : Int × Int) (hp : (partL (b : Int) n)[k]? = some pk) => show W.cell? ⟨bl, off + k * 2, none⟩ = some (.int .i64 pk.1) ∧ W.cell? ⟨bl, off + k * 2 + 1, none⟩ = some (.int .i64 pk.2) from by
    have hb15 : Below w3.heap.size w3 W := B5.out.trans (hW.below HLO.out B5.out.size)
    have hb : Below w1.heap.size w1 W := (HB2.out.1.trans (HB3.out.mono (by omega))).trans (hb15.mono (by omega))
    have hk : k < (partL (b : Int) n).length := (List.getElem?_eq_some_iff.1 hp).1
    have hs : (scriptL (b : Int) n)[k]? = some pk := by rw [script_part hk, hp]
    have e0 := HRD.out.2 k pk hs 0 _ rfl
    have e1 := HRD.out.2 k pk hs 1 _ rfl
    have hkeep : ∀ p : Addr, p.block = bl → W.cell? p = w1.cell? p := fun p hp => World.cell?_of_block (w := w1) (w' := W) (a := p) (hb.block p.block (by rw [hp]; exact HRD.out.1))
    exact ⟨by rw [hkeep _ rfl]; simpa using e0, by rw [hkeep _ rfl]; exact e1⟩)
  have HOK := Lib.hid (fun k (hk : k ≤ pl) => ok_run (b : Int) n k (by rw [HPL.out]; exact hk) (by omega))
  have HDO := Lib.hid (fun k (hk : k ≤ pl) (h4 : 4 ≤ k) => door (b : Int) n k (by rw [HPL.out]; exact hk) h4)
  go_wp2
  go_loopw [13] (fun i wr => ∃ k : Nat, i = .int .i64 k ∧ k ≤ pl ∧ CoIs B wr a g x (c45 b) P45 T45 (runD (c45 b) st45 (partL (b : Int) n) k) ∧ Turns (CoS a g x) w5 wr) (fun i _ => pl - (intOf i).toNat)
  case atStart => exact ⟨0, rfl, by omega, HCO.out.1, Turns.refl _ _⟩
  case round =>
    obtain ⟨k, rfl, hk, hco, ht⟩ := hrel
    obtain ⟨wo, rfl⟩ : ∃ wo : World, wo = wr := ⟨_, rfl⟩
    by_cases hlt : k < pl
    · obtain ⟨pk, hp⟩ := getElem?_lt (show k < (partL (b : Int) n).length by rw [HPL.out]; exact hlt)
      obtain ⟨c0, c1⟩ := HRDW.out wo ht k pk hp
      have hr := part_rest hp
      have hok := HOK.out k (by omega)
      obtain ⟨t, u⟩ := pk
      obtain ⟨tn, hte⟩ : ∃ tn : Nat, t = (tn : Int) ∧ tn < 2 := ⟨t.toNat, by simp only at hr; omega, by simp only at hr; omega⟩
      obtain ⟨rfl, htn⟩ := hte
      have HPK := Lib.hid hp
      simp only at hr c0 c1
      have htx : tn < x.n := by rw [HXN.out.1]; exact htn
      have hrun := runD_succ (c45 b) st45 hp
      unfold actD at hrun
      simp only [Int.toNat_natCast] at hrun
      have w0 := w45 (b : Int)
      have hpre : CoPre (40 + 2 * (k : Int)) x (c45 b) (runD (c45 b) st45 (partL (b : Int) n) k) := by
        have e := HXN.out
        rw [← e.1] at hok
        have w0' : CoW0 (c45 b) x.n x.N st45.s.W.length := by rw [e.1, e.2]; exact w0
        exact hok.pre w0' hco.fx (by omega) (by omega) (by omega)
      have HA0 := Lib.hid (askCo hco tn htx)
      have HL0 := Lib.hid (leaveCo hco tn htx)
      have HS0 := Lib.hid (stepCo hco hpre tn htx)
      have HT := Lib.hid ht
      have HRN := Lib.hid hrun
      have HD1 := Lib.hid (fun (h3 : 3 ≤ k) => HDO.out (k + 1) (by omega) (by omega))
      have HNX := Lib.hid (show ∀ w', CoIs B w' a g x (c45 b) P45 T45 (runD (c45 b) st45 (partL (b : Int) n) (k + 1)) → 3 ≤ k → (Calls Tryz.prog 14 #[.pointer (some ⟨x.l, 0, none⟩), .int .i64 0] w' fun e w2 => e = .returned (.bool true) ∧ Below w'.heap.size w' w2) ∧ (Calls Tryz.prog 15 #[.pointer (some ⟨x.l, 0, none⟩), .int .i64 0] w' fun e w2 => e = .returned (.int .i64 0) ∧ Below w'.heap.size w' w2) ∧ ∃ u b z, (Calls Tryz.prog 16 #[.pointer (some ⟨x.l, 0, none⟩), .int .i64 0] w' fun e w2 => e = .returned (.agg #[.int .i64 2, .int .i64 u, .int .i64 b, .int .i64 z]) ∧ Below w'.heap.size w' w2) from fun w' h' h3 => by
        have hd := HD1.out h3
        refine ⟨passedCo h' 0 (by rw [HXN.out.1]; omega) hd.1, globalCo h' 0 (by rw [HXN.out.2]; omega) hd.2, ?_⟩
        have hs := spotCo h' 0 (by rw [HXN.out.1]; omega)
        obtain ⟨p, hp⟩ : ∃ p, p = sv (runD (c45 b) st45 (partL (b : Int) n) (k + 1)).T 0 := ⟨_, rfl⟩
        rw [← hp] at hd hs
        obtain ⟨pc, u, b, z⟩ := p
        have hd1 := hd.1
        simp only at hd1
        subst hd1
        exact ⟨u, b, z, hs⟩)
      clear hp hok hrun w0 hpre hco ht htn
      have hq := hr.2.1
      have x4 : IntKind.i64.wrap ((k : Int) + 4) = (k : Int) + 4 := IntWalk.i64_in _ (by omega)
      by_cases h3 : 3 ≤ k
      · rcases hq with rfl | rfl | rfl
        all_goals
          go_wp2_with fail
          first
            | refine HS0.out.mono ?_
            | refine HA0.out.mono ?_
            | refine HL0.out.mono ?_
          rintro en w6 ⟨rfl, k6, t6⟩
          have e6 := HRN.out
          simp only [reduceIte, show ¬ ((0 : Int) = 1) by decide, show ¬ ((0 : Int) = 2) by decide, show ¬ ((2 : Int) = 1) by decide] at e6
          rw [← e6] at k6
          have N6 := HNX.out w6 k6 h3
          have C6 := Lib.hid (And.intro k6 (HT.out.trans t6))
          have N6a := Lib.hid N6.1
          clear e6 k6 t6 N6
          go_wp2_with fail
          refine N6a.out.mono ?_
          rintro en w7 ⟨rfl, b7⟩
          have C7 := Lib.hid (And.intro (C6.out.1.below b7) (C6.out.2.trans (Turns.of_below b7)))
          have N7 := Lib.hid (HNX.out w7 C7.out.1 h3).2.1
          clear b7
          go_wp2_with fail
          refine N7.out.mono ?_
          rintro en w8 ⟨rfl, b8⟩
          have C8 := Lib.hid (And.intro (C7.out.1.below b8) (C7.out.2.trans (Turns.of_below b8)))
          obtain ⟨u9, v9, z9, n8⟩ := (HNX.out w8 C8.out.1 h3).2.2
          have N8 := Lib.hid n8
          clear b8 n8
          go_wp2_with fail
          refine N8.out.mono ?_
          rintro en w9 ⟨rfl, b9⟩
          have C9 := Lib.hid (And.intro (C8.out.1.below b9) (C8.out.2.trans (Turns.of_below b9)))
          clear b9
          go_wp2
          go_roundw
          case rel => exact ⟨k + 1, by go_num, by omega, C9.out.1, C9.out.2⟩
          case measure => simp [intOf]; omega
      · rcases hq with rfl | rfl | rfl
        all_goals
          go_wp2_with fail
          first
            | refine HS0.out.mono ?_
            | refine HA0.out.mono ?_
            | refine HL0.out.mono ?_
          rintro en w6 ⟨rfl, k6, t6⟩
          have e6 := HRN.out
          simp only [reduceIte, show ¬ ((0 : Int) = 1) by decide, show ¬ ((0 : Int) = 2) by decide, show ¬ ((2 : Int) = 1) by decide] at e6
          rw [← e6] at k6
          have C6 := Lib.hid (And.intro k6 (HT.out.trans t6))
          clear e6 k6 t6
          go_wp2
          go_roundw
          case rel => exact ⟨k + 1, by go_num, by omega, C6.out.1, C6.out.2⟩
          case measure => simp [intOf]; omega
    · obtain rfl : k = pl := by omega
      have HE := Lib.hid (show Below w.heap.size w wo from by
        have hb15 : Below w3.heap.size w3 wo := B5.out.trans (ht.below HLO.out B5.out.size)
        have s1 := HB1.out.size
        exact ((HB1.out.trans (HB2.out.1.mono s1)).trans (HB3.out.mono (by omega))).trans (hb15.mono (by omega)))
      clear hco ht
      have x4 : IntKind.i64.wrap ((k : Int) + 4) = (k : Int) + 4 := IntWalk.i64_in _ (by omega)
      go_wp2_with fail
      refine (HAW.out _).mono ?_
      rintro en wz ⟨rfl, bz⟩
      have HZ := Lib.hid (show Below w.heap.size w wz from HE.out.trans (bz.mono HE.out.size))
      clear bz
      go_wp2
      go_ret
      exact ⟨rfl, HZ.out⟩
end Go.Proofs.YtfiigndlnihioaaGreat
end
