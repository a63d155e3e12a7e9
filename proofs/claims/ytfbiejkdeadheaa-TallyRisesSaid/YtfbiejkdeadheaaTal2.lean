/- Layer 12: what tally.Of hands back. -/
import Derived.Test.YtfbiejkdeadheaaTal1
import Derived.RegionCalls
import Derived.Deep.RegionWith
import Derived.StillTailTactics
namespace Go.Proofs.Ytfbiejkdeadheaa
open Go.RowKit Go.Maps

theorem Try.infoStay : (Try.prog.info? 103).map (fun i => (i.zero, i.size, i.bytes)) = some (some (.agg #[.int .i64 0, .bool false, .int .i64 0, .int .i64 0, .int .i64 0, .int .i64 0, .int .i64 0]), 7, 56) := by kernel_rfl
theorem intK : Keyed Try.prog 3 := int_keyed Try.underlying3
theorem zeroInt (w : World) : (zeroValue 3).run Try.prog w = .ok (.int .i64 0) w := by kernel_rfl

def wfE (e : Ev) : Prop := (Lit.int .i64 e.thread).wf = true

theorem tallyTo_len (l : List Ev) : ∀ k, (tallyTo l k).length ≤ k
  | 0 => by simp [tallyTo]
  | k + 1 => by
    have h := tallyTo_len l k
    unfold tallyTo
    split
    · unfold tstep
      split
      · split
        · simp; omega
        · omega
      · split
        · simp; omega
        · omega
    · omega
theorem tallyTo_succ (l : List Ev) (k : Nat) (e : Ev) (h : l[k]? = some e) : tallyTo l (k + 1) = tstep (tallyTo l k) k e := by
  show (match l[k]? with | some e => tstep (tallyTo l k) k e | none => tallyTo l k) = _
  rw [h]

theorem stay_cells (w : World) (s : Stay) {g : Nat} (hg : g = w.heap.size) : ∀ j u, (encS s)[j]? = some u → (w.alloc (.cells #[.int .i64 s.thread, .bool s.read, .int .i64 s.ask, .int .i64 s.enter, .int .i64 s.exit, .int .i64 s.rest, .int .i64 s.count] 103)).cell? ((⟨g, 0, none⟩ : Addr).add j) = some u := by
  intro j u hu
  subst hg
  have hadd : (⟨w.heap.size, 0, none⟩ : Addr).add j = ⟨w.heap.size, j, none⟩ := by unfold Addr.add; split <;> simp_all
  rw [hadd, cell_of_row (w.alloc _) w.heap.size j _ _ (0, 0) (heap_alloc_new w _)]
  simpa [encS] using hu

theorem note_call (w : World) (base g cap : Nat) (out : List Stay) (k : Nat) (s : Stay) (t : Int) (e : Ev) (nb : Bool) (hnb : noteOk s e = nb) (hown : w.ownsRow base 103 7 (.slice (some ⟨g, 0, none⟩) out.length cap) out.length (out.flatMap encS)) (hs : out[k]? = some s) :
    Calls Try.prog 72 #[.pointer (some ⟨g, k * 7, none⟩), .int .i64 t, .agg #[.int .i64 e.kind, .int .i64 e.thread, .bool e.read, .int .i64 e.count]] w fun en w' => en = .returned (.bool nb) ∧ w'.ownsRow base 103 7 (.slice (some ⟨g, 0, none⟩) out.length cap) out.length ((out.set k (noteS s t e)).flatMap encS) ∧ w.grownBy w' (some g) := by
  rw [← hnb]; exact note_any w base g cap out k s t e hown hs

set_option maxRecDepth 100000 in
set_option maxHeartbeats 2000000 in
theorem tallyOf_any (w : World) (v : Value) (l : List Ev) (h : RdL w v 4 encE l) (hwf : ∀ e ∈ l, wfE e) (hlen : l.length ≤ 60000) :
    Calls Try.prog 28 #[v] w fun en w' => ∃ v', en = .returned v' ∧ w'.ownsRow (w.heap.size + 1) 103 7 v' (tallyL l).length ((tallyL l).flatMap encS) ∧ Below w.heap.size w w' := by
  obtain ⟨i0, hi, hz0, hz1, hz2⟩ := info_parts Try.infoStay
  have hmm := @run_makeMap Try.prog
  obtain ⟨A, cap, rfl, l1, l2, hr⟩ := h
  have HW := Lib.hid hwf
  have HR := Lib.hid hr
  clear hwf hr
  go_enter Try.func28, Try.ntmps28
  go_wp2
  go_loopw [3, 12] (fun v' i wr => ∃ (k : Nat) (D : DataW Unit), k ≤ l.length ∧ i = .int .i64 k ∧ MapIs D (tallyTo l k) ∧ wr.ownsMap Try.prog 3 (plainElem Try.prog 3) w.heap.size k D ∧ wr.ownsRow (w.heap.size + 1) 103 7 v' (tallyTo l k).length ((tallyTo l k).flatMap encS) ∧ Below w.heap.size w wr) (fun _ i _ => l.length - (intOf i).toNat)
  case atStart =>
    exact ⟨0, .map [], by omega, rfl, mapIs_nil, World.ownsMap_made _ _ _ _, World.ownsRow_nil _ _ _ _, (Below.refl _ _).alloc (Nat.le_refl _) _⟩
  case round =>
    obtain ⟨k, D, hk, rfl, hmi, hmap, hown, hbel⟩ := hrel
    by_cases hlt : k < l.length
    · obtain ⟨bl, off, rfl, hbl, hc⟩ := HR.out (by omega)
      obtain ⟨e, he⟩ := getElem?_lt hlt
      have c0 := (hbel.cell (p := ⟨bl, off + k * 4 + 0, none⟩) hbl).trans (hc k e he 0 _ rfl)
      have c1 := (hbel.cell (p := ⟨bl, off + k * 4 + 1, none⟩) hbl).trans (hc k e he 1 _ rfl)
      have c2 := (hbel.cell (p := ⟨bl, off + k * 4 + 2, none⟩) hbl).trans (hc k e he 2 _ rfl)
      have c3 := (hbel.cell (p := ⟨bl, off + k * 4 + 3, none⟩) hbl).trans (hc k e he 3 _ rfl)
      simp only [Nat.add_zero] at c0
      have hwt : wfE e := HW.out e (List.mem_of_getElem? he)
      have hkey := keyOf_int_mk Try.underlying3 hwt
      obtain ⟨out, ho⟩ : ∃ out, out = tallyTo l k := ⟨_, rfl⟩
      have hol : out.length ≤ 60000 := by rw [ho]; have := tallyTo_len l k; omega
      have hts : tallyTo l (k + 1) = tstep out k e := by rw [tallyTo_succ l k e he, ho]
      rw [← ho] at hmi hown
      have hle := hbel.size
      have HE := Lib.hid (And.intro he hts)
      have HM := Lib.hid (And.intro hmi hwt)
      have HO := Lib.hid ho
      have hlm := hmap.lt
      clear hc he hts hmi hwt ho
      by_cases hhas : Maps.has D (keyI e.thread) = true
      · obtain ⟨i, s, hs, hst, hsr, hat0⟩ := (HM.out.1.2.2 e.thread).1 hhas
        have hi : i < out.length := (List.getElem?_eq_some_iff.1 hs).1
        have hno' : Maps.has D (Lit.int .i64 e.thread) = true := hhas
        obtain ⟨g, cp, hv, hg0, hg1⟩ := own_form1 hown (by omega)
        subst hv
        have HH := Lib.hid (And.intro hs (And.intro hst (And.intro hsr hat0)))
        clear hhas hs hst hsr hat0
        have hlk : ∀ c : Int, D.atKey (Lit.int .i64 e.thread) (.lit (.int .i64 0)) = .lit (.int .i64 c) → c = (i : Int) := fun c hc => by
          have h := hc.symm.trans HH.out.2.2.2
          injection h with h
          injection h
        have HL := Lib.hid hlk
        clear hlk
        cases hk1 : (e.kind == 1)
        all_goals
          go_wp2_with (first | (at_lookup; refine wpList_lookup_own_ok_int _ rfl _ _ 115 rfl 3 3 .i64 intK Try.underlying115 Try.underlying3 (zeroInt _) w.heap.size k D rfl (hmap.alloc _) _ _ rfl hkey ?_; intro c hat hwc; obtain rfl := HL.out c hat; clear hat hwc))
          have hown1 := hown.alloc (.cells #[.int .i64 e.kind, .int .i64 e.thread, .bool e.read, .int .i64 e.count] 57)
          have hc1 : (wr.alloc (.cells #[.int .i64 e.kind, .int .i64 e.thread, .bool e.read, .int .i64 e.count] 57)).cell? ⟨wr.heap.size, 0, none⟩ = some (.int .i64 e.kind) := World.cell?_alloc_at _ _ _ _ rfl
          have hc2 : (wr.alloc (.cells #[.int .i64 e.kind, .int .i64 e.thread, .bool e.read, .int .i64 e.count] 57)).cell? ⟨wr.heap.size, 1, none⟩ = some (.int .i64 e.thread) := World.cell?_alloc_at _ _ _ _ rfl
          have hc3 : (wr.alloc (.cells #[.int .i64 e.kind, .int .i64 e.thread, .bool e.read, .int .i64 e.count] 57)).cell? ⟨wr.heap.size, 2, none⟩ = some (.bool e.read) := World.cell?_alloc_at _ _ _ _ rfl
          have hc4 : (wr.alloc (.cells #[.int .i64 e.kind, .int .i64 e.thread, .bool e.read, .int .i64 e.count] 57)).cell? ⟨wr.heap.size, 3, none⟩ = some (.int .i64 e.count) := World.cell?_alloc_at _ _ _ _ rfl
          have hws : wr.heap.size < (wr.alloc (.cells #[.int .i64 e.kind, .int .i64 e.thread, .bool e.read, .int .i64 e.count] 57)).heap.size := by simp
          cases hnb : noteOk s e
          · have HNB := Lib.hid hnb
            clear hnb
            have hbel1 := hbel.alloc hle (.cells #[.int .i64 e.kind, .int .i64 e.thread, .bool e.read, .int .i64 e.count] 57)
            have hmap1 := hmap.alloc (.cells #[.int .i64 e.kind, .int .i64 e.thread, .bool e.read, .int .i64 e.count] 57)
            generalize hW : (wr.alloc (.cells #[.int .i64 e.kind, .int .i64 e.thread, .bool e.read, .int .i64 e.count] 57)) = W at hc1 hc2 hc3 hc4 hws hown1 hbel1 hmap1 ⊢
            have HBM := Lib.hid (And.intro hbel1 hmap1)
            clear hbel1 hmap1 hbel hmap hown hW
            refine wp_region_still_tail 7 (by kernel_rfl) (by kernel_rfl) ?_
            simp only [List.take_succ_cons, List.take_zero, List.drop_succ_cons, List.drop_zero]
            change wpStill _ _ (World.drew _) _ _ _
            repeat still_step
            refine wpStill_nil ?_
            change wpList _ _ _ _ _ (World.drew W)
            go_wp2_with (go_at_call 72; refine (note_call _ (w.heap.size + 1) g cp out i s _ e _ HNB.out (by exact hown1) HH.out.1).mono ?_; rintro en w3 ⟨rfl, hown3, hg3⟩; have q0 := hg3.cell hc1 (by simp; omega); have q1 := hg3.cell hc2 (by simp; omega))
            have hfin : MapIs D (tallyTo l (k + 1)) ∧ w3.ownsMap Try.prog 3 (plainElem Try.prog 3) w.heap.size k D ∧ w3.ownsRow (w.heap.size + 1) 103 7 (.slice (some ⟨g, 0, none⟩) out.length cp) (tallyTo l (k + 1)).length ((tallyTo l (k + 1)).flatMap encS) ∧ Below w.heap.size w w3 := by
              obtain ⟨e1, e2⟩ := mapIs_note (k := (k : Int)) HM.out.1 HH.out.1 HH.out.2.1 HH.out.2.2.1 (.inl HNB.out)
              rw [HE.out.2, e1]
              exact ⟨e2, HBM.out.2.drew.kept hg3 (by simp; omega), by simpa using hown3, HBM.out.1.drew.grown hg3 (show w.heap.size ≤ W.heap.size by omega) (fun j hj => by cases hj; omega)⟩
            go_roundw
            case rel => exact ⟨k + 1, _, by omega, by go_num, hfin.1, hfin.2.1.mono (by omega), hfin.2.2.1, hfin.2.2.2⟩
            case measure => simp [intOf]; omega
          · have HNB := Lib.hid hnb
            clear hnb
            by_cases h4 : e.kind = 4
            · have b4 : (e.kind == 4) = true := by rw [h4]; rfl
              have H4 := Lib.hid h4
              clear h4
              have hbel1 := hbel.alloc hle (.cells #[.int .i64 e.kind, .int .i64 e.thread, .bool e.read, .int .i64 e.count] 57)
              have hmap1 := hmap.alloc (.cells #[.int .i64 e.kind, .int .i64 e.thread, .bool e.read, .int .i64 e.count] 57)
              generalize hW : (wr.alloc (.cells #[.int .i64 e.kind, .int .i64 e.thread, .bool e.read, .int .i64 e.count] 57)) = W at hc1 hc2 hc3 hc4 hws hown1 hbel1 hmap1 ⊢
              have HBM := Lib.hid (And.intro hbel1 hmap1)
              clear hbel1 hmap1 hbel hmap hown hW
              refine wp_region_still_tail 7 (by kernel_rfl) (by kernel_rfl) ?_
              simp only [List.take_succ_cons, List.take_zero, List.drop_succ_cons, List.drop_zero]
              change wpStill _ _ (World.drew _) _ _ _
              repeat still_step
              refine wpStill_nil ?_
              change wpList _ _ _ _ _ (World.drew W)
              go_wp2_with (first | (go_at_call 72; refine (note_call _ (w.heap.size + 1) g cp out i s _ e _ HNB.out (by exact hown1) HH.out.1).mono ?_; rintro en w3 ⟨rfl, hown3, hg3⟩; have q0 := hg3.cell hc1 (by simp; omega); have q1 := hg3.cell hc2 (by simp; omega)) | (at_delete; refine wpList_delete_own _ rfl _ _ 115 3 rfl 3 intK Try.underlying115 _ w.heap.size k D rfl (HBM.out.2.drew.kept hg3 (by simp; omega)) _ _ rfl hkey ?_; intro w4 hmap4 hturn4))
              have hg4 := hturn4.grown
              have hfin : MapIs (D.del (keyI e.thread)) (tallyTo l (k + 1)) ∧ w4.ownsMap Try.prog 3 (plainElem Try.prog 3) w.heap.size k (D.del (keyI e.thread)) ∧ w4.ownsRow (w.heap.size + 1) 103 7 (.slice (some ⟨g, 0, none⟩) out.length cp) (tallyTo l (k + 1)).length ((tallyTo l (k + 1)).flatMap encS) ∧ Below w.heap.size w w4 := by
                obtain ⟨e1, e2⟩ := mapIs_rest (k := (k : Int)) HM.out.1 HH.out.1 HH.out.2.1 HH.out.2.2.1 (by omega) HNB.out H4.out
                have hs3 : W.heap.size ≤ w3.heap.size := hg3.size
                have hb3 := HBM.out.1.size
                rw [HE.out.2, e1]
                exact ⟨e2, hmap4, (by simpa using hown3.kept hg4 (.inr (by simp [Value.ownBlock]; omega))), (HBM.out.1.drew.grown hg3 (show w.heap.size ≤ W.heap.size by omega) (fun j hj => by cases hj; omega)).grown hg4 (by omega) (fun j hj => by cases hj; exact Nat.le_refl _)⟩
              go_roundw
              case rel => exact ⟨k + 1, _, by omega, by go_num, hfin.1, hfin.2.1.mono (by omega), hfin.2.2.1, hfin.2.2.2⟩
              case measure => simp [intOf]; omega
            · have b4 : (e.kind == 4) = false := by simpa using h4
              have H4 := Lib.hid h4
              clear h4
              have hbel1 := hbel.alloc hle (.cells #[.int .i64 e.kind, .int .i64 e.thread, .bool e.read, .int .i64 e.count] 57)
              have hmap1 := hmap.alloc (.cells #[.int .i64 e.kind, .int .i64 e.thread, .bool e.read, .int .i64 e.count] 57)
              generalize hW : (wr.alloc (.cells #[.int .i64 e.kind, .int .i64 e.thread, .bool e.read, .int .i64 e.count] 57)) = W at hc1 hc2 hc3 hc4 hws hown1 hbel1 hmap1 ⊢
              have HBM := Lib.hid (And.intro hbel1 hmap1)
              clear hbel1 hmap1 hbel hmap hown hW
              refine wp_region_still_tail 7 (by kernel_rfl) (by kernel_rfl) ?_
              simp only [List.take_succ_cons, List.take_zero, List.drop_succ_cons, List.drop_zero]
              change wpStill _ _ (World.drew _) _ _ _
              repeat still_step
              refine wpStill_nil ?_
              change wpList _ _ _ _ _ (World.drew W)
              go_wp2_with (go_at_call 72; refine (note_call _ (w.heap.size + 1) g cp out i s _ e _ HNB.out (by exact hown1) HH.out.1).mono ?_; rintro en w3 ⟨rfl, hown3, hg3⟩; have q0 := hg3.cell hc1 (by simp; omega); have q1 := hg3.cell hc2 (by simp; omega))
              have hfin : MapIs D (tallyTo l (k + 1)) ∧ w3.ownsMap Try.prog 3 (plainElem Try.prog 3) w.heap.size k D ∧ w3.ownsRow (w.heap.size + 1) 103 7 (.slice (some ⟨g, 0, none⟩) out.length cp) (tallyTo l (k + 1)).length ((tallyTo l (k + 1)).flatMap encS) ∧ Below w.heap.size w w3 := by
                obtain ⟨e1, e2⟩ := mapIs_note (k := (k : Int)) HM.out.1 HH.out.1 HH.out.2.1 HH.out.2.2.1 (.inr H4.out)
                rw [HE.out.2, e1]
                exact ⟨e2, HBM.out.2.drew.kept hg3 (by simp; omega), by simpa using hown3, HBM.out.1.drew.grown hg3 (show w.heap.size ≤ W.heap.size by omega) (fun j hj => by cases hj; omega)⟩
              go_roundw
              case rel => exact ⟨k + 1, _, by omega, by go_num, hfin.1, hfin.2.1.mono (by omega), hfin.2.2.1, hfin.2.2.2⟩
              case measure => simp [intOf]; omega
      · have hno : Maps.has D (keyI e.thread) = false := by simpa using hhas
        have HN := Lib.hid hno
        have hno' : Maps.has D (Lit.int .i64 e.thread) = false := hno
        clear hhas hno
        by_cases k1 : e.kind = 1
        · have b1 : (e.kind == 1) = true := by rw [k1]; rfl
          have K1 := Lib.hid k1
          clear k1
          obtain ⟨A', cp, hv⟩ := own_form hown
          subst hv
          have hnb : ∀ j, (Value.slice A' out.length cp).ownBlock = some j → w.heap.size + 1 ≤ j := fun j hj => (hown.lt j hj).1
          have HB := Lib.hid hnb
          clear hnb
          go_wp2_with (first | (at_lookup; refine wpList_lookup_own_ok_int _ rfl _ _ 115 rfl 3 3 .i64 intK Try.underlying115 Try.underlying3 (zeroInt _) w.heap.size k D rfl (hmap.alloc _) _ _ rfl hkey ?_; intro c hat hwc) | (at_mapUpdate; refine wpList_mapUpdate_own _ rfl _ _ _ 115 rfl 3 3 intK Try.underlying115 _ w.heap.size k D rfl (hmap.alloc _) ?m1 _ _ _ rfl rfl hkey _ [] (plainElem_int Try.underlying3 (WalkArith.wf_i64 (by omega))) ?_))
          case m1 => unfold maxLen; omega
          intro w1 hmap1 hg1
          have hs1 : wr.heap.size + 1 ≤ w1.heap.size := by have := hg1.size; simpa using this
          have q1 : w1.cell? ⟨wr.heap.size, 1, none⟩ = some (.int .i64 e.thread) := hg1.cell (World.cell?_alloc_at _ _ _ _ rfl) (by simp; omega)
          have q2 : w1.cell? ⟨wr.heap.size, 2, none⟩ = some (.bool e.read) := hg1.cell (World.cell?_alloc_at _ _ _ _ rfl) (by simp; omega)
          have hown1 := (hown.alloc (.cells #[.int .i64 e.kind, .int .i64 e.thread, .bool e.read, .int .i64 e.count] 57)).kept hg1 (.inr fun he => by have := HB.out _ he; omega)
          go_wp2_with (at_builtin; refine wpList_append_own _ rfl _ _ 54 rfl (w.heap.size + 1) 103 i0 (.agg #[.int .i64 0, .bool false, .int .i64 0, .int .i64 0, .int .i64 0, .int .i64 0, .int .i64 0]) 7 56 Try.underlying54 hi hz0 hz1 hz2 rfl (by decide) _ _ _ rfl (hown1.alloc _) ⟨w1.heap.size, 0, none⟩ 1 1 (encS (newS k e)) rfl rfl (stay_cells w1 (newS k e) rfl) (encS_one _) ?c3 ?c4 ?c5 ?_)
          case c3 => unfold maxLen; omega
          case c4 => omega
          case c5 => simp; omega
          intro v' w2 h2 hg2 _
          have hfin : MapIs (D.put (keyI e.thread) (.lit (.int .i64 (out.length : Int)))) (tallyTo l (k + 1)) ∧ w2.ownsMap Try.prog 3 (plainElem Try.prog 3) w.heap.size (k + 1) (D.put (keyI e.thread) (.lit (.int .i64 (out.length : Int)))) ∧ w2.ownsRow (w.heap.size + 1) 103 7 v' (tallyTo l (k + 1)).length ((tallyTo l (k + 1)).flatMap encS) ∧ Below w.heap.size w w2 := by
            obtain ⟨e1, e2⟩ := mapIs_ask (k := (k : Int)) HM.out.1 HN.out K1.out
            rw [HE.out.2, e1]
            refine ⟨e2, (hmap1.alloc _).kept hg2 (fun he => by have := HB.out _ he.symm; omega), by simpa [List.flatMap_append, List.flatMap_cons] using h2, ?_⟩
            refine (((hbel.alloc hle _).grown hg1 (by simp; omega) (fun j hj => by cases hj; exact Nat.le_refl _)).alloc (by omega) _).grown hg2 (by simp; omega) (fun j hj => by have := HB.out j hj; omega)
          have HF := Lib.hid hfin
          clear hfin h2 hg2 hown1 q1 q2 hg1 hmap1 hmap hown hbel
          go_wp2
          go_roundw
          case rel => exact ⟨k + 1, _, by omega, by go_num, HF.out.1, HF.out.2.1, HF.out.2.2.1, HF.out.2.2.2⟩
          case measure => simp [intOf]; omega
        · have b1 : (e.kind == 1) = false := by simpa using k1
          have K1 := Lib.hid k1
          clear k1
          go_wp2_with (first | (at_lookup; refine wpList_lookup_own_ok_int _ rfl _ _ 115 rfl 3 3 .i64 intK Try.underlying115 Try.underlying3 (zeroInt _) w.heap.size k D rfl (hmap.alloc _) _ _ rfl hkey ?_; intro c hat hwc))
          go_quiet (fail)
          go_wp2
          have hfin : tallyTo l (k + 1) = out := by rw [HE.out.2, mapIs_skip HM.out.1 HN.out K1.out]
          go_roundw
          case rel => exact ⟨k + 1, D, by omega, by go_num, by rw [hfin]; exact HM.out.1, (hmap.alloc _).mono (by omega), by rw [hfin]; exact hown.alloc _, below_drewN (hbel.alloc hle _) nq⟩
          case measure => simp [intOf]; omega
    · obtain rfl : k = l.length := by omega
      have HF := Lib.hid (And.intro hown hbel)
      clear hown hbel hmap hmi
      go_wp2
      go_ret
      exact ⟨_, rfl, HF.out.1, HF.out.2⟩
end Go.Proofs.Ytfbiejkdeadheaa
